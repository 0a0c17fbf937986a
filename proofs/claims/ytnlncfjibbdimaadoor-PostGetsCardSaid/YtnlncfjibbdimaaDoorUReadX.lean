/-
  Get of a slice that may be nil; the ledger's parse, in plain Lean; append of a command to a ledger; command.Read.
  The walks of the document's piece and ticks.
  A region whose operations stand in one order, only read and call functions that leave what was there: walked quietly.
-/
import Derived.Test.YtnlncfjibbdimaaDoorUGetZ
import Derived.Test.YtnlncfjibbdimaaDoorUWireX
import Derived.Test.YtnlncfjibbdimaaDoorURdX
import Derived.Test.YtnlncfjibbdimaaDoorULaws
import Derived.Test.YtnlncfjibbdimaaDoorUPiece
import Derived.Deep.CutBlock
import Derived.Test.YtnlncfjibbdimaaDoorULex
namespace Go.Proofs.YtnlncfjibbdimaaDoor
open Go.RowKit
set_option linter.unusedSimpArgs false
set_option linter.unusedVariables false
/-- The command in form whose bytes they are. -/
def gcmd (bs : List Nat) : Option Cmd :=
  match pCmd bs with
  | some (c, []) => if chkB c = true then some c else none
  | _ => none
theorem gcmd_some {bs : List Nat} {c : Cmd} (h : pCmd bs = some (c, [])) (hc : chkB c = true) : gcmd bs = some c := by
  unfold gcmd
  rw [h]
  simp only
  rw [if_pos hc]
theorem gcmd_none {bs : List Nat} (h : ∀ c, pCmd bs = some (c, []) → chkB c = false) : gcmd bs = none := by
  unfold gcmd
  cases hp : pCmd bs with
  | none => rfl
  | some x =>
    obtain ⟨c, R⟩ := x
    cases R with
    | nil =>
      simp only
      rw [if_neg (by rw [h c hp]; decide)]
    | cons _ _ => rfl
theorem gcmd_inv {bs : List Nat} {c : Cmd} (h : gcmd bs = some c) : pCmd bs = some (c, []) ∧ chkB c = true := by
  unfold gcmd at h
  cases hp : pCmd bs with
  | none => rw [hp] at h; cases h
  | some x =>
    obtain ⟨d, R⟩ := x
    rw [hp] at h
    cases R with
    | nil =>
      simp only at h
      split at h
      · injection h with h
        subst h
        exact ⟨rfl, by assumption⟩
      · cases h
    | cons _ _ => cases h
end Go.Proofs.YtnlncfjibbdimaaDoor
namespace Go.Proofs.YtnlncfjibbdimaaDoor
open Go.RowKit
set_option linter.unusedSimpArgs false
set_option linter.unusedVariables false
set_option maxRecDepth 100000 in
theorem clone_nil (w : World) : Calls Tryd.prog 147 #[.slice none 0 0] w fun e w' => e = .returned (.slice none 0 0) ∧ w' = w := by
  have hn := fun w => Lib.run_eql_slice_nil (P := Tryd.prog) w 84 5 none 0 0 0 0 Tryd.underlying84
  go_enter Tryd.func147, Tryd.ntmps147
  go_wp2_with (fail)
  go_ret
  exact ⟨rfl, rfl⟩
set_option maxRecDepth 100000 in
set_option maxHeartbeats 800000 in
theorem newReader_nil (w : World) : Calls Tryd.prog 107 #[.slice none 0 0] w fun e w' => ∃ g : Nat, e = .returned (.pointer (some ⟨g, 0, none⟩)) ∧ RdrAt w' w.heap.size g [] 0 ∧ Below w.heap.size w w' := by
  go_enter Tryd.func107, Tryd.ntmps107
  go_wp2_with (first | (go_at_call 147; refine (clone_nil _).mono ?_; rintro e w1 ⟨rfl, hw⟩; subst w1) | fail)
  go_ret
  exact ⟨w.heap.size, rfl, ⟨Nat.le_refl _, by simp, Nat.zero_le _, by simp, none, 0, Blk.new w 230 _, World.ownsRow_nil _ _ _ _⟩, (Below.refl _ _).alloc (Nat.le_refl _) _⟩
set_option maxRecDepth 100000 in
set_option maxHeartbeats 3200000 in
theorem get_nil (w : World) (a2 : Addr) (h2 : w.cell? ⟨2, 0, none⟩ = some (errv a2)) : Calls Tryd.prog 47 #[.slice none 0 0] w (GetAny a2 [] w) := by
  have hmf : ∀ (fn : Fn) (first cap : Array Value) (w : World), (Instr.makeFunc fn first cap).run Tryd.prog w = .ok (.func fn first cap) w := fun _ _ _ _ => rfl
  have h02 := World.block_lt_of_cell? w _ h2
  simp only at h02
  have H := Lib.hid h2
  clear h2
  go_enter_defers Tryd.func47, Tryd.ntmps47
  go_upto_region 2 with (fail)
  refine wp_letter (fun W => Below w.heap.size w W ∧ Blk W w.heap.size 81 zCells ∧ Blk W (w.heap.size + 1) 34 #[.nilIface] ∧ w.heap.size + 2 ≤ W.heap.size)
    ⟨((Below.refl w.heap.size w).alloc (Nat.le_refl _) _).alloc (by simp) _, (Blk.new w 81 _).alloc _, Blk.new1 w _ 34 _, by simp⟩ ?_
  rintro W ⟨hb, hY, hE, hs⟩
  obtain ⟨y, hy⟩ : ∃ y, y = w.heap.size := ⟨_, rfl⟩
  have hk107 := newReader_nil W
  rw [← hy] at hY hE hs ⊢
  have h2y : 2 < y := by omega
  have HW := Lib.hid (And.intro hb (And.intro hY (And.intro hE (And.intro hs hy))))
  have HK107 := Lib.hid hk107
  clear hb hY hE hs hy hk107
  go_upto_region 3 with (first | (go_at_call 107; refine HK107.out.mono ?_; rintro e w2 ⟨g, rfl, R2, b2⟩; have H2 := Lib.hid (And.intro R2 b2); clear R2 b2) | fail)
  have hg : W.heap.size ≤ g := H2.out.1.1
  have hyW : y + 1 < W.heap.size := by have := HW.out.2.2.2.1; omega
  have hRem : Rem (w2.alloc (.cells #[.pointer (some ⟨g, 0, none⟩)] 187)) W.heap.size g [] := ⟨[], 0, H2.out.1.below ((Below.refl w2.heap.size w2).alloc (Nat.le_refl _) _) (Nat.le_refl _), by simp⟩
  refine wp_letter (fun W3 => Rem W3 W.heap.size g [] ∧ Below w.heap.size w W3 ∧ Blk W3 y 81 zCells ∧ Blk W3 (y + 1) 34 #[.nilIface] ∧ Blk W3 w2.heap.size 187 #[.pointer (some ⟨g, 0, none⟩)])
    ⟨hRem, (HW.out.1.trans (H2.out.2.mono HW.out.1.size)).alloc (Nat.le_trans HW.out.1.size H2.out.2.size) _, (HW.out.2.1.below H2.out.2 (by omega)).alloc _, (HW.out.2.2.1.below H2.out.2 (by omega)).alloc _, Blk.new w2 187 _⟩ ?_
  have hgt : g < w2.heap.size := H2.out.1.lt
  obtain ⟨t, ht⟩ : ∃ t, t = w2.heap.size := ⟨_, rfl⟩
  rw [← ht] at hgt ⊢
  clear hRem ht
  rintro W3 ⟨hR, hb, hY, hE, hT⟩
  have hyg : y ≠ g := by omega
  have heg : y + 1 ≠ g := by omega
  have htg : t ≠ g := by omega
  have hyt : y ≠ t := by omega
  have het : y + 1 ≠ t := by omega
  have cT := hT.cell
  have hc2 := (hb.cell h02).trans H.out
  have k108 := rcmd_any W3 W.heap.size g [] a2 hR (by omega) hc2
  have HS := Lib.hid (And.intro hR (And.intro hb (And.intro hY (And.intro hE (And.intro hT hc2)))))
  unfold CmdWay at k108
  have hb4 : ∀ W4, Fr W3.heap.size (fun k => k = g) W3 W4 → Below w.heap.size w W4 := fun W4 f => ((Fr.of_below hb (fun _ => False)).trans (f.mono hb.size (S' := fun _ => False) (fun k hk he => by have := HW.out.1.size; omega))).below (fun _ _ h => h)
  have HB4 := Lib.hid hb4
  clear hR hb hY hE hT HK107 H2 hc2 hb4
  have hpc : pCmd [] = none := by simp [pCmd, pNum, dec, decG_nil]
  rw [hpc] at k108
  have HP := Lib.hid hpc
  have HK := Lib.hid k108
  clear hpc k108
  go_upto_region 4 with (first | (go_at_call 108; refine HK.out.mono ?_; rintro e w4 ⟨he, f4⟩; unfold brokenP at he; subst he; have F4 := Lib.hid f4; clear f4) | fail)
  have hY4 := HS.out.2.2.1.keep F4.out hyg
  have hE4 := HS.out.2.2.2.1.keep F4.out heg
  have hb4 := HB4.out w4 F4.out
  refine leaves_cons (f := 106) (args := #[.pointer (some ⟨y, 0, none⟩), .pointer (some ⟨y + 1, 0, none⟩)]) (by simp) (by simp [go_sem]) ?_
  refine (get_catch y zCells .nilIface a2 [] w4 hY4 rfl hE4 h2y ((hb4.cell h02).trans H.out)).mono ?_
  rintro e u' W10 ⟨rfl, rfl, hY10, hE10, hb10⟩
  have hld := run_loadVar_mid (P := Tryd.prog) W10 y 0 81 (zeroCmd.cells (.slice none 0 0)) _ (Blk.range hY10) Tryd.underlying81 rfl cmd_info
  have cE := hE10.cell 0
  have hend : GetAny a2 [] w (.returned (.tuple #[.agg (zeroCmd.cells (.slice none 0 0)).toArray, errv a2])) W10 :=
    .inr ⟨fun c hc => (by rw [HP.out] at hc; cases hc), rfl, hb4.trans (hb10.mono (Nat.le_of_eq HW.out.2.2.2.2.symm))⟩
  have HEND := Lib.hid hend
  clear hend
  simp [go_sem] at hld
  simp [Leaves, settle, results, Tryd.results47, go_sem, hld, cE]
  exact HEND.out
theorem newReader_opt (w : World) (A : Option Addr) (c : Nat) (bs : List Nat) (hl : bs.length ≤ 140737488355328) (h256 : ∀ x ∈ bs, x < 256) (hr : Rd w 0 w.heap.size 1 A bs.length (u8s bs)) (hA : A = none → c = 0) :
    Calls Tryd.prog 107 #[.slice A bs.length c] w fun e w' => ∃ g : Nat, e = .returned (.pointer (some ⟨g, 0, none⟩)) ∧ RdrAt w' w.heap.size g bs 0 ∧ Below w.heap.size w w' := by
  cases A with
  | some ad => exact newReader_any w ad c bs hl h256 hr
  | none =>
    obtain rfl := hA rfl
    have h0 : bs = [] := by
      rcases Nat.eq_zero_or_pos bs.length with h0 | h0
      · exact List.eq_nil_of_length_eq_zero h0
      · obtain ⟨ad, he, _⟩ := hr.2 h0
        cases he
    subst h0
    exact newReader_nil w
theorem get_opt (w : World) (A : Option Addr) (cp : Nat) (bs : List Nat) (hl : bs.length ≤ 140737488355328) (h256 : ∀ x ∈ bs, x < 256)
    (hr : Rd w 0 w.heap.size 1 A bs.length (u8s bs)) (hA : A = none → cp = 0) (a1 : Addr) (h1 : w.cell? ⟨1, 0, none⟩ = some (errv a1)) (a2 : Addr) (h2 : w.cell? ⟨2, 0, none⟩ = some (errv a2)) : Calls Tryd.prog 47 #[.slice A bs.length cp] w (GetAny a2 bs w) := by
  cases A with
  | some ad => exact get_any w ad cp bs hl h256 hr a1 h1 a2 h2
  | none =>
    obtain rfl := hA rfl
    have h0 : bs = [] := by
      rcases Nat.eq_zero_or_pos bs.length with h0 | h0
      · exact List.eq_nil_of_length_eq_zero h0
      · obtain ⟨ad, he, _⟩ := hr.2 h0
        cases he
    subst h0
    exact get_nil w a2 h2
end Go.Proofs.YtnlncfjibbdimaaDoor
namespace Go.Proofs.YtnlncfjibbdimaaDoor
open Go.RowKit
set_option linter.unusedSimpArgs false
set_option linter.unusedVariables false
/-- A list of bytes off the front, of whatever length is there. -/
def pPiece (R : List Nat) : Option (List Nat × List Nat) :=
  match dec R with
  | some (n, r) => if n ≤ r.length then some (r.take n, r.drop n) else none
  | none => none
/-- Commands off the front. -/
def pCmds : Nat → List Nat → Option (List Cmd × List Nat)
  | 0, R => some ([], R)
  | n + 1, R => (pPiece R).bind fun x => (gcmd x.1).bind fun c => (pCmds n x.2).bind fun y => some (c :: y.1, y.2)
/-- The ledger of bytes. -/
def rdLed (R : List Nat) : Option (List Cmd) :=
  match dec R with
  | some (n, r) => if n ≤ 4096 then (pCmds n r).bind fun x => if x.2 = [] then some x.1 else none else none
  | none => none
theorem pCmds_snoc : ∀ {k : Nat} {R r r' one : List Nat} {l : List Cmd} {c : Cmd}, pCmds k R = some (l, r) → pPiece r = some (one, r') → gcmd one = some c → pCmds (k + 1) R = some (l ++ [c], r')
  | 0, R, r, r', one, l, c, h, h1, h2 => by
    injection h with h
    injection h with e1 e2
    subst e1 e2
    simp [pCmds, h1, h2]
  | k + 1, R, r, r', one, l, c, h, h1, h2 => by
    obtain ⟨⟨a, R1⟩, q1, h⟩ := bind_some_inv h
    obtain ⟨d, q2, h⟩ := bind_some_inv h
    obtain ⟨⟨ys, R2⟩, q3, h⟩ := bind_some_inv h
    injection h with h
    injection h with e1 e2
    subst e1 e2
    have := pCmds_snoc q3 h1 h2
    rw [pCmds, q1]
    simp only [Option.bind_some, q2, this, List.cons_append]
theorem pCmds_stop : ∀ {k n : Nat} {R r : List Nat} {l : List Cmd}, pCmds k R = some (l, r) → (pPiece r = none ∨ ∃ one r', pPiece r = some (one, r') ∧ gcmd one = none) → k < n → pCmds n R = none
  | 0, 0, _, _, _, _, _, hk => absurd hk (by omega)
  | 0, n + 1, R, r, l, h, hx, _ => by
    injection h with h
    injection h with e1 e2
    subst e1 e2
    rcases hx with hx | ⟨one, r', h1, h2⟩
    · simp [pCmds, hx]
    · simp [pCmds, h1, h2]
  | k + 1, 0, _, _, _, _, _, hk => absurd hk (by omega)
  | k + 1, n + 1, R, r, l, h, hx, hk => by
    obtain ⟨⟨a, R1⟩, q1, h⟩ := bind_some_inv h
    obtain ⟨d, q2, h⟩ := bind_some_inv h
    obtain ⟨⟨ys, R2⟩, q3, h⟩ := bind_some_inv h
    injection h with h
    injection h with e1 e2
    subst e1 e2
    have := pCmds_stop q3 hx (by omega : k < n)
    rw [pCmds, q1]
    simp only [Option.bind_some, q2, this, Option.bind_none]
/-! ### What was written is read -/
theorem pNum_encI {n : Int} {r : List Nat} (h : inG n) : ∃ m : Nat, (m : Int) = n ∧ pNum (encI n ++ r) = some (m, r) := by
  unfold inG at h
  refine ⟨n.toNat, Int.toNat_of_nonneg h.1, ?_⟩
  unfold pNum encI
  rw [dec_enc _ _ (by omega)]
  simp only
  rw [if_pos (by omega)]
theorem pText_encS {s : ByteArray} {r : List Nat} (h : s.size ≤ 200) : pText (encS s ++ r) = some (s, r) := by
  unfold pText encS
  rw [List.append_assoc, dec_enc _ _ (by omega)]
  simp only
  have hb : (bytesN s).length = s.size := bytesN_length s
  rw [if_pos ⟨h, by rw [List.length_append]; omega⟩, List.take_append_of_le_length (by omega), ← hb, List.take_length, List.drop_left, textOf_bytesN]
theorem pId_enc {a b c : Int} {r : List Nat} (ha : inG a) (hb : inG b) (hc : inG c) : ∃ x : Nat × Nat × Nat, (x.1 : Int) = a ∧ (x.2.1 : Int) = b ∧ (x.2.2 : Int) = c ∧ pId (encI a ++ (encI b ++ (encI c ++ r))) = some (x, r) := by
  obtain ⟨x, e1, h1⟩ := pNum_encI (r := encI b ++ (encI c ++ r)) ha
  obtain ⟨y, e2, h2⟩ := pNum_encI (r := encI c ++ r) hb
  obtain ⟨z, e3, h3⟩ := pNum_encI (r := r) hc
  exact ⟨(x, y, z), e1, e2, e3, pId_some h1 h2 h3⟩
theorem pNums_enc : ∀ {l : List Int} {r : List Nat}, (∀ x ∈ l, inG x) → pNums l.length (l.flatMap encI ++ r) = some (l, r)
  | [], r, _ => rfl
  | a :: l, r, h => by
    obtain ⟨m, e, h1⟩ := pNum_encI (r := l.flatMap encI ++ r) (h a (by simp))
    have h2 := pNums_enc (l := l) (r := r) (fun x hx => h x (by simp [hx]))
    rw [List.length_cons, List.flatMap_cons, List.append_assoc, pNums_cons h1 h2, e]
theorem pCmd_enc {c : Cmd} {r : List Nat} (hc : chkB c = true) : pCmd (putN c ++ r) = some (c, r) := by
  obtain ⟨kind, idn, idb, ids, bucket, key, upn, upb, ups, pbn, pbb, pbs, psize, etag, part, parts, time, days⟩ := c
  have h := chk_rng hc
  have h16 := h.parts.2
  have hb := h.bucket
  have hk := h.key
  have he := h.etag
  simp only at h16 hb hk he
  have e : putN { kind := kind, idn := idn, idb := idb, ids := ids, bucket := bucket, key := key, upn := upn, upb := upb, ups := ups, pbn := pbn, pbb := pbb, pbs := pbs, psize := psize, etag := etag, part := part, parts := parts, time := time, days := days } ++ r =
      encI kind ++ (encI idn ++ (encI idb ++ (encI ids ++ (encS bucket ++ (encS key ++ (encI upn ++ (encI upb ++ (encI ups ++ (encI pbn ++ (encI pbb ++ (encI pbs ++ (encI psize ++ (encS etag ++ (encI part ++ (encI (parts.length : Int) ++ (parts.flatMap encI ++ (encI time ++ (encI days ++ r)))))))))))))))))) := by
    simp only [putN, putHead, List.append_assoc]
  rw [e]
  obtain ⟨kn, e0, h0⟩ := pNum_encI (r := encI idn ++ (encI idb ++ (encI ids ++ (encS bucket ++ (encS key ++ (encI upn ++ (encI upb ++ (encI ups ++ (encI pbn ++ (encI pbb ++ (encI pbs ++ (encI psize ++ (encS etag ++ (encI part ++ (encI (parts.length : Int) ++ (parts.flatMap encI ++ (encI time ++ (encI days ++ r)))))))))))))))))) h.kind
  obtain ⟨⟨i1, i2, i3⟩, e1a, e1b, e1c, h1⟩ := pId_enc (r := encS bucket ++ (encS key ++ (encI upn ++ (encI upb ++ (encI ups ++ (encI pbn ++ (encI pbb ++ (encI pbs ++ (encI psize ++ (encS etag ++ (encI part ++ (encI (parts.length : Int) ++ (parts.flatMap encI ++ (encI time ++ (encI days ++ r))))))))))))))) h.id.1 h.id.2.1 h.id.2.2
  have h2 := pText_encS (s := bucket) (r := encS key ++ (encI upn ++ (encI upb ++ (encI ups ++ (encI pbn ++ (encI pbb ++ (encI pbs ++ (encI psize ++ (encS etag ++ (encI part ++ (encI (parts.length : Int) ++ (parts.flatMap encI ++ (encI time ++ (encI days ++ r)))))))))))))) (by omega)
  have h3 := pText_encS (s := key) (r := encI upn ++ (encI upb ++ (encI ups ++ (encI pbn ++ (encI pbb ++ (encI pbs ++ (encI psize ++ (encS etag ++ (encI part ++ (encI (parts.length : Int) ++ (parts.flatMap encI ++ (encI time ++ (encI days ++ r))))))))))))) hk
  obtain ⟨⟨u1, u2, u3⟩, e4a, e4b, e4c, h4⟩ := pId_enc (r := encI pbn ++ (encI pbb ++ (encI pbs ++ (encI psize ++ (encS etag ++ (encI part ++ (encI (parts.length : Int) ++ (parts.flatMap encI ++ (encI time ++ (encI days ++ r)))))))))) h.up.1 h.up.2.1 h.up.2.2
  obtain ⟨⟨p1, p2, p3⟩, e5a, e5b, e5c, h5⟩ := pId_enc (r := encI psize ++ (encS etag ++ (encI part ++ (encI (parts.length : Int) ++ (parts.flatMap encI ++ (encI time ++ (encI days ++ r))))))) h.blob.1 h.blob.2.1 h.blob.2.2
  obtain ⟨sn, e6, h6⟩ := pNum_encI (r := encS etag ++ (encI part ++ (encI (parts.length : Int) ++ (parts.flatMap encI ++ (encI time ++ (encI days ++ r)))))) h.psize
  have h7 := pText_encS (s := etag) (r := encI part ++ (encI (parts.length : Int) ++ (parts.flatMap encI ++ (encI time ++ (encI days ++ r))))) (by omega)
  obtain ⟨ptn, e8, h8⟩ := pNum_encI (r := encI (parts.length : Int) ++ (parts.flatMap encI ++ (encI time ++ (encI days ++ r)))) h.part
  obtain ⟨n, e9, h9⟩ := pNum_encI (n := (parts.length : Int)) (r := parts.flatMap encI ++ (encI time ++ (encI days ++ r))) (by unfold inG; omega)
  obtain rfl : n = parts.length := by omega
  have h10 : pNums (min parts.length 17) (parts.flatMap encI ++ (encI time ++ (encI days ++ r))) = some (parts, encI time ++ (encI days ++ r)) := by
    rw [Nat.min_eq_left (by omega)]
    exact pNums_enc h.parts.1
  obtain ⟨tn, e11, h11⟩ := pNum_encI (r := encI days ++ r) h.time
  obtain ⟨dn, e12, h12⟩ := pNum_encI (r := r) h.days
  simp only at e0 e1a e1b e1c e4a e4b e4c e5a e5b e5c e6 e8 e11 e12
  rw [pCmd_some h0 h1 h2 h3 h4 h5 h6 h7 h8 h9 h10 h11 h12, e0, e1a, e1b, e1c, e4a, e4b, e4c, e5a, e5b, e5c, e6, e8, e11, e12]
theorem gcmd_put {c : Cmd} (hc : chkB c = true) : gcmd (putN c) = some c := by
  have := pCmd_enc (r := []) hc
  rw [List.append_nil] at this
  exact gcmd_some this hc
theorem pPiece_enc {one r : List Nat} (h : one.length < 9223372036854775808) : pPiece (enc one.length ++ one ++ r) = some (one, r) := by
  unfold pPiece
  rw [List.append_assoc, dec_enc _ _ h]
  simp only
  rw [if_pos (by rw [List.length_append]; omega), List.take_left, List.drop_left]
theorem pCmds_enc : ∀ {l : List Cmd} {r : List Nat}, (∀ c ∈ l, chkB c = true) → pCmds l.length (l.flatMap pieceN ++ r) = some (l, r)
  | [], r, _ => rfl
  | c :: l, r, h => by
    have hc := h c (by simp)
    have hlen := putN_len c (Lens.of (chk_rng hc)) (chk_rng hc).parts.1
    have h1 := pPiece_enc (one := putN c) (r := l.flatMap pieceN ++ r) (by omega)
    have h2 := pCmds_enc (l := l) (r := r) (fun d hd => h d (by simp [hd]))
    rw [List.length_cons, List.flatMap_cons, pieceN, List.append_assoc, pCmds, h1]
    simp only [Option.bind_some, gcmd_put hc, h2]
theorem rdLed_enc {l : List Cmd} (h : ∀ c ∈ l, chkB c = true) (hl : l.length ≤ 4096) : rdLed (ledN l) = some l := by
  unfold rdLed ledN
  rw [dec_enc _ _ (by omega)]
  simp only
  have := pCmds_enc (r := []) h
  rw [List.append_nil] at this
  rw [if_pos hl, this]
  rfl
theorem sealN_inj {a b : List Nat} (h : sealN a = sealN b) : a = b := by
  have hl : a.length = b.length := by
    have := congrArg List.length h
    rw [sealN_length, sealN_length] at this
    omega
  exact (List.append_inj h hl).1
end Go.Proofs.YtnlncfjibbdimaaDoor
namespace Go.Proofs.YtnlncfjibbdimaaDoor
open Go.RowKit
set_option linter.unusedSimpArgs false
set_option linter.unusedVariables false
/-- Blocks of one type may have turned; what stands in a block of another type stays. -/
theorem Blk.frT {w w' : World} {y B : Nat} {t e : TypeId} {cs : Array Value} (h : Blk w y t cs) (f : Fr B (fun k => ∃ cs, Blk w k e cs) w w') (hB : w.heap.size ≤ B) (ht : t ≠ e) : Blk w' y t cs :=
  h.fr f (Nat.lt_of_lt_of_le h.lt hB) (fun ⟨cs', h'⟩ => by
    unfold Blk at h h'
    rw [h] at h'
    injection h' with h'
    injection h' with _ h'
    exact ht h')
theorem RdrAt.frT {w w' : World} {lo g p : Nat} {bs : List Nat} {e : TypeId} (h : RdrAt w lo g bs p) (f : Fr w.heap.size (fun k => ∃ cs, Blk w k e cs) w w') (h1 : 230 ≠ e) (h2 : 5 ≠ e) : RdrAt w' lo g bs p := by
  obtain ⟨q1, q2, q3, q4, A, c, hb, ho⟩ := h
  refine ⟨q1, q2, q3, q4, A, c, hb.frT f (Nat.le_refl _) h1, ho.1, ?_⟩
  rcases ho.2 with h7 | ⟨k, cap, cur, he, hb', hh, hr⟩
  · exact .inl h7
  · have hk : Blk w k 5 cur := hh
    exact .inr ⟨k, cap, cur, he, hb', hk.frT f (Nat.le_refl _) h2, hr⟩
section
variable {ops : Array Oper} {rest : List Oper} {o : Oper} {a : Act} {W : World} {Q : Exit → Act → World → Prop}
theorem law_append81 (s x : Operand) (lo : Nat) (v : Value) (l : List Cmd) (c : Cmd) (pv : Value) (hgd : o.guard = none) (ho : o.op = .call { callee := .builtin .append, args := #[s, x], argTypes := #[46, 46] })
    (hs : a.eval s = v) (hO : OwnLed W lo W.heap.size v l) (hp : OwnInts W lo W.heap.size pv c.parts) (hlo : lo ≤ W.heap.size) (hx : a.eval x = .slice (some ⟨W.heap.size, 0, none⟩) 1 1) (hl : (l.length + 1) * 184 ≤ 140737488355328)
    (h : ∀ A' c' W', OwnLed W' lo W'.heap.size (.slice A' (l.length + 1) c') (l ++ [c]) → Below lo W W' → Fr W.heap.size (fun k => ∃ cs, Blk W k 81 cs) W W' → wpList Tryd.prog ops Q rest (a.put o.dst (.slice A' (l.length + 1) c')) W') :
    wpList Tryd.prog ops Q (o :: rest) a (W.alloc (.cells (c.cells pv).toArray 81)) := by
  obtain ⟨i1, z1, hi1, hz11, hz12, hz13, hz14⟩ := cmd_info'
  obtain ⟨rows, hown, hlen, hrl, hrows⟩ := hO
  have hB0 : Below W.heap.size W (W.alloc (.cells (c.cells pv).toArray 81)) := (Below.refl _ _).alloc (Nat.le_refl _) _
  have hown1 := (hown.fr (Fr.of_below hB0 (fun _ => False)) (Nat.le_refl _) (fun _ _ _ h => h)).1
  have hrd : Rd (W.alloc (.cells (c.cells pv).toArray 81)) 0 (W.heap.size + 1) 18 (some ⟨W.heap.size, 0, none⟩) 1 (c.cells pv) :=
    ⟨rfl, fun _ => ⟨_, rfl, Nat.zero_le _, Nat.lt_succ_self _, fun j u hu => by rw [Addr.add_mid]; exact (Blk.new W 81 _).range j u hu⟩⟩
  obtain ⟨pA, pc, hpv, _⟩ := hp.1.form
  have h1c : ∀ u ∈ c.cells pv, u.oneCell' = true := by
    rw [hpv]
    have := cells_oneCell c pA c.parts.length pc
    simpa using this
  refine wpList_append_any _ hgd s x 46 ho lo 81 i1 z1 18 184 Tryd.underlying46 hi1 hz11 hz12 hz13 hz14 (by decide) v l.length rows.flatten hs hown1 0 (W.heap.size + 1) (some ⟨W.heap.size, 0, none⟩) 1 1 (c.cells pv) hx hrd h1c (by simp only [maxLen]; omega) (by omega) (by simp; omega) ?_
  intro v1 w1 hown2 hg hat
  have hO1 : OwnRow w1 lo w1.heap.size 81 18 v1 (l.length + 1) (rows.flatten ++ c.cells pv) := ⟨hown2, fun g hg => (hown2.lt g hg).2⟩
  obtain ⟨A1, c1, hv1, _⟩ := hO1.form
  subst hv1
  have hf81 : Fr W.heap.size (fun k => ∃ cs, Blk W k 81 cs) W w1 := ((Fr.refl W.heap.size (fun k => ∃ cs, Blk W k 81 cs) W).alloc (Nat.le_refl _) _).grown hg (by simp) (fun k hk => .inl (own_blk hown.1 hk))
  have hbl : Below lo W w1 := ((Below.refl lo W).alloc hlo _).grown hg (by simp; omega) (fun k hk => (hown.1.lt k hk).1)
  have hint : ∀ {u : Value} {ys : List Int}, OwnInts W lo W.heap.size u ys → OwnInts w1 lo w1.heap.size u ys := fun hu =>
    ((hu.fr (Fr.of_below hB0 (fun _ => False)) (Nat.le_refl _) (fun _ _ _ h => h)).grown hown1 (by decide) hg).wider (Nat.le_refl _) hf81.size
  refine h A1 c1 w1 ⟨rows ++ [c.cells pv], ?_, ?_, ?_, ?_⟩ hbl hf81
  · rw [List.flatten_append, List.length_append]
    simpa using hO1
  · rw [List.length_append]
    exact hl
  · rw [List.length_append, List.length_append, hrl]
    rfl
  · intro i r d hr hd
    by_cases hi : i < rows.length
    · rw [List.getElem?_append_left hi] at hr
      rw [List.getElem?_append_left (by omega)] at hd
      obtain ⟨pv', hpv', hoi⟩ := hrows i r d hr hd
      exact ⟨pv', hpv', hint hoi⟩
    · have hi2 : i = rows.length := by
        have := (List.getElem?_eq_some_iff.1 hr).1
        rw [List.length_append, List.length_singleton] at this
        omega
      subst hi2
      rw [List.getElem?_append_right (Nat.le_refl _), Nat.sub_self] at hr
      rw [List.getElem?_append_right (by omega), hrl, Nat.sub_self] at hd
      simp at hr hd
      subst hr hd
      exact ⟨pv, rfl, hint hp⟩
end
end Go.Proofs.YtnlncfjibbdimaaDoor
namespace Go.Proofs.YtnlncfjibbdimaaDoor
open Go.RowKit
set_option linter.unusedSimpArgs false
set_option linter.unusedVariables false
theorem OwnLed.frz {w w' : World} {lo hi z : Nat} {v : Value} {l : List Cmd} {t : TypeId} {cs : Array Value} (h : OwnLed w lo hi v l) (f : Fr w.heap.size (fun k => k = z) w w') (hB : Blk w z t cs) (h3 : t ≠ 3) (h81 : t ≠ 81) : OwnLed w' lo hi v l := by
  obtain ⟨rows, ⟨ho, hh⟩, hl, hrl, hr⟩ := h
  refine ⟨rows, ⟨⟨ho.1, ?_⟩, hh⟩, hl, hrl, fun i r c q1 q2 => ?_⟩
  · rcases ho.2 with h7 | ⟨k, cap, cur, he, hb', hk, hrr⟩
    · exact .inl h7
    · have hk' : Blk w k 81 cur := hk
      have hzk : k ≠ z := fun e => by
        subst e
        unfold Blk at hB hk'
        rw [hB] at hk'
        injection hk' with hk'
        injection hk' with _ hk'
        exact h81 hk'
      exact .inr ⟨k, cap, cur, he, hb', hk'.fr f hk'.lt hzk, hrr⟩
  · obtain ⟨pv, e1, e2⟩ := hr i r c q1 q2
    exact ⟨pv, e1, e2.frz f hB h3⟩
theorem GetAny.some_ {a2 : Addr} {bs : List Nat} {w w' : World} {e : Ending} {c : Cmd} (h : GetAny a2 bs w e w') (hc : gcmd bs = some c) : GetPost c w e w' := by
  rcases h with ⟨d, h1, h2, h3⟩ | ⟨h1, _⟩
  · rw [gcmd_some h1 h2] at hc
    injection hc with hc
    rw [← hc]
    exact h3
  · rw [gcmd_none h1] at hc
    cases hc
theorem GetAny.none_ {a2 : Addr} {bs : List Nat} {w w' : World} {e : Ending} (h : GetAny a2 bs w e w') (hc : gcmd bs = none) : e = .returned (.tuple #[.agg (zeroCmd.cells (.slice none 0 0)).toArray, errv a2]) ∧ Below w.heap.size w w' := by
  rcases h with ⟨d, h1, h2, h3⟩ | ⟨h1, h2, h3⟩
  · rw [gcmd_some h1 h2] at hc
    cases hc
  · exact ⟨h2, h3⟩
/-- What Read answers of opened bytes. -/
def ReadIn (xs : List Nat) (a2 : Addr) (w : World) (e : Ending) (w' : World) : Prop :=
  (rdLed xs = none ∧ e = .returned (.tuple #[.slice none 0 0, errv a2])) ∨ ∃ l v, rdLed xs = some l ∧ e = .returned (.tuple #[v, .nilIface]) ∧ OwnLed w' w.heap.size w'.heap.size v l
/-- What Read answers. -/
def ReadPost (bs : List Nat) (a2 a8 : Addr) (w : World) (e : Ending) (w' : World) : Prop :=
  Below w.heap.size w w' ∧
  ((bs.length < 4 ∧ e = .returned (.tuple #[.slice none 0 0, errv a2])) ∨
   (4 ≤ bs.length ∧ ¬ sealN (bs.take (bs.length - 4)) = bs ∧ e = .returned (.tuple #[.slice none 0 0, errv a8])) ∨
   (∃ xs, bs = sealN xs ∧ ReadIn xs a2 w e w'))
theorem rdLed_none {xs : List Nat} (h : ∀ n r, dec xs = some (n, r) → 4096 < n) : rdLed xs = none := by
  unfold rdLed
  cases hd : dec xs with
  | none => rfl
  | some x =>
    obtain ⟨n, r⟩ := x
    have := h n r hd
    simp only
    rw [if_neg (by omega)]
theorem rdLed_of {xs r : List Nat} {n : Nat} (h : dec xs = some (n, r)) (hn : n ≤ 4096) : rdLed xs = (pCmds n r).bind fun x => if x.2 = [] then some x.1 else none := by
  unfold rdLed
  rw [h]
  simp only
  rw [if_pos hn]
theorem pPiece_some {R r : List Nat} {n : Nat} (h : dec R = some (n, r)) (hn : n ≤ r.length) : pPiece R = some (r.take n, r.drop n) := by
  unfold pPiece
  rw [h]
  simp only
  rw [if_pos hn]
theorem pPiece_none {R : List Nat} (h : ∀ n r, dec R = some (n, r) → r.length < n) : pPiece R = none := by
  unfold pPiece
  cases hd : dec R with
  | none => rfl
  | some x =>
    obtain ⟨n, r⟩ := x
    have := h n r hd
    simp only
    rw [if_neg (by omega)]
set_option maxRecDepth 100000 in
set_option maxHeartbeats 6400000 in
theorem wread_any (w : World) (hi c : Nat) (A : Option Addr) (bs : List Nat) (hr : Rd w 0 hi 1 A bs.length (u8s bs)) (hhi : hi ≤ w.heap.size) (hl : bs.length ≤ 140737488351232) (hc : bs.length ≤ c ∧ c ≤ 9223372036854775807) (h256 : ∀ x ∈ bs, x < 256)
    (a1 a2 a8 : Addr) (h1 : w.cell? ⟨1, 0, none⟩ = some (errv a1)) (h2 : w.cell? ⟨2, 0, none⟩ = some (errv a2)) (h8 : w.cell? ⟨8, 0, none⟩ = some (errv a8)) : Calls Tryd.prog 72 #[.slice A bs.length c] w (ReadPost bs a2 a8 w) := by
  have h01 := World.block_lt_of_cell? w _ h1
  have h02 := World.block_lt_of_cell? w _ h2
  have k135 := wopen_any w hi c A bs hr hhi hl hc h256 a2 a8 h2 h8
  have HG := Lib.hid (show ∀ W, Below w.heap.size w W → W.cell? ⟨1, 0, none⟩ = some (errv a1) ∧ W.cell? ⟨2, 0, none⟩ = some (errv a2) from fun W b => ⟨(b.cell h01).trans h1, (b.cell h02).trans h2⟩)
  have HK := Lib.hid k135
  have H := Lib.hid (And.intro hl h256)
  clear hr hhi hl hc h256 h1 h2 h8 h01 h02 k135
  go_enter Tryd.func72, Tryd.ntmps72
  go_upto_region 2 with (first | (go_at_call 135; refine HK.out.mono ?_; rintro e w1 ⟨b1, ⟨hs, rfl⟩ | ⟨hs1, hs2, rfl⟩ | ⟨xs, A1, c1, hbs, rfl, o1⟩⟩) | fail)
  · go_wp2_with (fail)
    go_ret2
    exact ⟨b1, .inl ⟨hs, rfl⟩⟩
  · go_wp2_with (fail)
    go_ret2
    exact ⟨b1, .inr (.inl ⟨hs1, hs2, rfl⟩)⟩
  · have hxl : xs.length + 4 ≤ 140737488351232 := by have := H.out.1; rw [hbs, sealN_length] at this; exact this
    have hx256 : ∀ x ∈ xs, x < 256 := fun x hx => H.out.2 x (by rw [hbs]; exact List.mem_append_left _ hx)
    have hA1 : A1 = none → c1 = 0 := fun hA => by
      subst hA
      rcases o1.2 with ⟨q1, _⟩ | ⟨_, _, _, q1, _⟩
      · injection q1
      · injection q1 with q1
        cases q1
    have k107 := newReader_opt w1 A1 c1 xs (by omega) hx256 ((Rd.of_own o1 (fun g hg => (o1.lt g hg).2)).wider (Nat.zero_le _) (Nat.le_refl _)) hA1
    have H1 := Lib.hid (And.intro b1 (And.intro hbs hx256))
    obtain ⟨n, hn⟩ : ∃ n, n = xs.length := ⟨_, rfl⟩
    have HN := Lib.hid (And.intro hn hxl)
    rw [← hn] at k107 ⊢
    have HK1 := Lib.hid k107
    clear hxl hx256 hA1 o1 b1 hbs k107 hn
    go_upto_region 5 with (first | (go_at_call 107; refine HK1.out.mono ?_; rintro e w2 ⟨g, rfl, R2, b2⟩; have H2 := Lib.hid (And.intro R2 (H1.out.1.trans (b2.mono H1.out.1.size))); clear R2 b2) | fail)
    have hlog : w.heap.size ≤ g := Nat.le_trans H1.out.1.size H2.out.1.1
    have hbad : (∀ m r, dec xs = some (m, r) → 4096 < m) ∨ ∃ m r, dec xs = some (m, r) ∧ m ≤ 4096 := by
      cases hd : dec xs with
      | none => exact .inl (fun m r h => by cases h)
      | some x =>
        obtain ⟨m, r⟩ := x
        by_cases hm : m ≤ 4096
        · exact .inr ⟨m, r, rfl, hm⟩
        · exact .inl (fun m' r' h => by injection h with h; injection h with h _; omega)
    rcases hbad with hbad | ⟨m, r0, hd, hm⟩
    · have k136 := rdnum_bad w2 w1.heap.size g 0 4096 xs H2.out.1 (by rw [List.drop_zero]; exact hbad) (by omega) a2 (HG.out w2 H2.out.2).2
      have HK2 := Lib.hid (And.intro k136 hbad)
      clear k136 hbad
      go_wp2_with (first | (go_at_call 136; refine HK2.out.1.mono ?_; rintro e w3 ⟨rfl, b3⟩; have H3 := Lib.hid (H2.out.2.trans (b3.mono H2.out.2.size)); clear b3) | fail)
      go_ret2
      exact ⟨H3.out, .inr (.inr ⟨xs, H1.out.2.1, .inl ⟨rdLed_none HK2.out.2, rfl⟩⟩)⟩
    · have k136 := rdnum_good w2 w1.heap.size g 0 4096 m xs r0 H2.out.1 (by rw [List.drop_zero]; exact hd) hm (by omega)
      have HK2 := Lib.hid (And.intro k136 (rdLed_of hd hm))
      have hm63 : (m : Int) ≤ 4096 := by omega
      clear k136 hd
      go_wp2_with (first | (go_at_call 136; refine HK2.out.1.mono ?_; rintro e w3 ⟨q0, hr0, rfl, R3, f3⟩; have H3 := Lib.hid (And.intro R3 (And.intro (((Fr.of_below H2.out.2 (fun _ => False)).trans (f3.mono H2.out.2.size (S' := fun _ => False) (fun k hk he => by omega))).below (fun _ _ h => h)) hr0)); clear R3 f3 hr0) | fail)
      go_loopw [8, 32] (fun out i wr => ∃ (k : Nat) (A' : Option Addr) (c' : Nat) (l : List Cmd) (q : Nat), k ≤ m ∧ i = .int .i64 k ∧ out = .slice A' l.length c' ∧ l.length = k ∧ pCmds k r0 = some (l, xs.drop q) ∧ RdrAt wr w1.heap.size g xs q ∧
        OwnLed wr w.heap.size wr.heap.size (.slice A' l.length c') l ∧ Below w.heap.size w wr) (fun _ i _ => m - (intOf i).toNat)
      case atStart => exact ⟨0, none, 0, [], q0, Nat.zero_le _, rfl, rfl, rfl, by rw [H3.out.2.2]; rfl, H3.out.1, OwnLed.nil_ _ _ _, H3.out.2.1⟩
      case round =>
        obtain ⟨k, A', c', l, q, hk, rfl, rfl, hll, hpc, hR, hO, hB⟩ := hrel
        have HS := Lib.hid (And.intro hR (And.intro hO (And.intro hB (And.intro hpc hll))))
        have hgl := hR.lt
        have hgB : ∃ Ag cg, Blk wr g 230 #[.slice Ag xs.length cg, .int .i64 q] := by
          obtain ⟨_, _, _, _, Ag, cg, hb, _⟩ := hR
          exact ⟨Ag, cg, hb⟩
        obtain ⟨Ag, cg, hgB⟩ := hgB
        have HGB := Lib.hid hgB
        clear hR hO hB hpc hgB hll
        by_cases hlt : (k : Int) < m
        · have hway : pPiece (xs.drop q) = none ∨ ∃ n1 r1, dec (xs.drop q) = some (n1, r1) ∧ n1 ≤ r1.length := by
            cases hd : dec (xs.drop q) with
            | none => exact .inl (pPiece_none (fun n r h => by rw [hd] at h; cases h))
            | some y =>
              obtain ⟨n1, r1⟩ := y
              by_cases hn1 : n1 ≤ r1.length
              · exact .inr ⟨n1, r1, rfl, hn1⟩
              · exact .inl (pPiece_none (fun n r h => by rw [hd] at h; injection h with h; injection h with e1 e2; subst e1 e2; omega))
          rcases hway with hbadp | ⟨n1, r1, hd1, hn1⟩
          · have k137 := rdbytes_bad wr w1.heap.size g q n xs HS.out.1 (fun n' r' h => .inr (by
              unfold pPiece at hbadp
              rw [h] at hbadp
              simp only at hbadp
              split at hbadp
              · cases hbadp
              · omega)) (by have := HN.out; omega) a2 (HG.out wr HS.out.2.2.1).2
            have hnone : rdLed xs = none := by rw [HK2.out.2, pCmds_stop HS.out.2.2.2.1 (.inl hbadp) (by omega)]; rfl
            have HK3 := Lib.hid (And.intro k137 hnone)
            clear k137 hnone hbadp
            go_wp2_with (first | (go_at_call 137; refine HK3.out.1.mono ?_; rintro e w4 ⟨rfl, b4⟩; have H4 := Lib.hid (HS.out.2.2.1.trans (b4.mono HS.out.2.2.1.size)); clear b4) | fail)
            go_ret2
            exact ⟨H4.out, .inr (.inr ⟨xs, H1.out.2.1, .inl ⟨HK3.out.2, rfl⟩⟩)⟩
          · obtain ⟨one, hone⟩ : ∃ one, one = r1.take n1 := ⟨_, rfl⟩
            have hol : one.length = n1 := by rw [hone, List.length_take]; omega
            have hd256 : ∀ x ∈ xs.drop q, x < 256 := fun x hx => H1.out.2.2 x (List.mem_of_mem_drop hx)
            have hr1l : r1.length ≤ n := by
              have e := congrArg List.length (dec_inv hd256 hd1)
              rw [List.length_drop, List.length_append] at e
              have := HN.out.1
              omega
            have hone256 : ∀ x ∈ one, x < 256 := fun x hx => dec_rest hd256 hd1 x (by rw [hone] at hx; exact List.mem_of_mem_take hx)
            have hpp : pPiece (xs.drop q) = some (one, r1.drop n1) := by rw [hone]; exact pPiece_some hd1 hn1
            have k137 := rdbytes_good wr w1.heap.size g q n xs one (r1.drop n1) HS.out.1 (by rw [hol, hone, List.take_append_drop]; exact hd1) (by omega) (by have := HN.out; omega)
            have HK3 := Lib.hid k137
            have HP := Lib.hid (And.intro hpp (And.intro hone256 (show one.length ≤ 140737488355328 by have := HN.out; omega)))
            clear k137 hpp hone256 hone hol hd256 hr1l hd1 hn1
            go_upto_region 14 with (first | (go_at_call 137; refine HK3.out.mono ?_; rintro e w4 ⟨q4, A4, c4, hq4, rfl, o4, R4, f4⟩; have H4 := Lib.hid (And.intro hq4 (And.intro o4 (And.intro R4 f4))); clear hq4 o4 R4 f4) | fail)
            have hB4 : Below w.heap.size w w4 := ((Fr.of_below HS.out.2.2.1 (fun _ => False)).trans (H4.out.2.2.2.mono HS.out.2.2.1.size (S' := fun _ => False) (fun k hk he => by omega))).below (fun _ _ h => h)
            have hO4 : OwnLed w4 w.heap.size w4.heap.size (.slice A' l.length c') l := (HS.out.2.1.frz H4.out.2.2.2 HGB.out (by decide) (by decide)).wider (Nat.le_refl _) H4.out.2.2.2.size
            have k47 := get_opt w4 A4 c4 one HP.out.2.2 HP.out.2.1 ((Rd.of_own H4.out.2.1.2.2 (fun g hg => (H4.out.2.1.2.2.lt g hg).2)).wider (Nat.zero_le _) (Nat.le_refl _)) (ownA8 H4.out.2.1) a1 (HG.out w4 hB4).1 a2 (HG.out w4 hB4).2
            have H5 := Lib.hid (And.intro hB4 hO4)
            have HK4 := Lib.hid k47
            clear hB4 hO4 k47
            cases hgc : gcmd one with
            | none =>
              have hnone : rdLed xs = none := by rw [HK2.out.2, pCmds_stop HS.out.2.2.2.1 (.inr ⟨one, r1.drop n1, HP.out.1, hgc⟩) (by omega)]; rfl
              have HNO := Lib.hid (And.intro hgc hnone)
              clear hgc hnone
              have hzc : (Tryd.prog.info? 81).map (·.size) = some zCells.size := cmd_info
              have hzo : zCells.all (·.oneCell') = true := by simp [zCells, Value.oneCell']
              go_wp2_with (first
                | (go_at_call 47; refine HK4.out.mono ?_; rintro e w5 hg5; obtain ⟨rfl, b5⟩ := hg5.none_ HNO.out.1; have H6 := Lib.hid ((H5.out.1.trans (b5.mono H5.out.1.size)).alloc (H5.out.1.trans (b5.mono H5.out.1.size)).size (.cells zCells 81)); clear b5 hg5)
                | ((with_reducible refine law_store_fresh 81 (.tmp 11) (.tmp 47) w5 81 _ zCells ?_ ?_ rfl hzc ?_ hzo ?_); rfl; rfl; rfl)
                | fail)
              go_ret2
              exact ⟨H6.out, .inr (.inr ⟨xs, H1.out.2.1, .inl ⟨HNO.out.2, rfl⟩⟩)⟩
            | some cm =>
              have HGC := Lib.hid hgc
              clear hgc
              obtain ⟨i1, z1, hi1, hz11, hz12, hz13, hz14⟩ := cmd_info'
              go_upto_region 17 with (first
                | (go_at_call 47
                   refine HK4.out.mono ?_
                   rintro e w5 hg5
                   obtain ⟨pv, rfl, ho5, b5⟩ := hg5.some_ HGC.out
                   have hbA : Below w5.heap.size w5 (w5.alloc (.cells (cm.cells pv).toArray 81)) := (Below.refl w5.heap.size w5).alloc (Nat.le_refl _) _
                   have hb45 := b5.trans (hbA.mono b5.size)
                   have hO6 := (H5.out.2.fr (Fr.of_below hb45 (fun _ => False)) (Nat.le_refl _) (fun _ _ _ h => h)).wider (Nat.le_refl _) hb45.size
                   have hp6 := (ho5.fr (Fr.of_below hbA (fun _ => False)) (Nat.le_refl _) (fun _ _ _ h => h)).wider H5.out.1.size hbA.size
                   have hone := intsAt_oneW ho5.at_
                   have H6 := Lib.hid (And.intro hO6 (And.intro hp6 (And.intro (H5.out.1.trans (hb45.mono H5.out.1.size)) (And.intro (H4.out.2.2.1.below hb45 (Nat.le_refl _)) hone))))
                   clear ho5 b5 hg5 hbA hb45 hO6 hp6 hone)
                | ((with_reducible refine law_store_fresh 81 (.tmp 11) (.tmp 47) w5 81 _ (cm.cells pv).toArray ?_ ?_ rfl ?_ ?_ H6.out.2.2.2.2 ?_); rfl; rfl; exact cmd_info; rfl)
                | fail)
              refine wp_letter (fun W => OwnLed W w.heap.size W.heap.size (.slice A' l.length c') l ∧ OwnInts W w.heap.size W.heap.size pv cm.parts ∧ Below w.heap.size w W ∧ RdrAt W w1.heap.size g xs q4 ∧ Blk W w5.heap.size 81 (cm.cells pv).toArray)
                ⟨H6.out.1, H6.out.2.1, H6.out.2.2.1, H6.out.2.2.2.1, Blk.new w5 81 _⟩ ?_
              rintro W6 hW6
              have hrx := hW6.2.2.2.2.range
              have G6 := Lib.hid hW6
              clear hW6
              go_wp2_with (first
                | ((with_reducible refine law_load 81 (.tmp 11) w5.heap.size 0 (cm.cells pv) ?_ hrx Tryd.underlying81 ?_ ?_ ?_); rfl; rfl; exact cmd_info)
                | ((with_reducible refine law_buildSlice1 46 81 (.tmp 53) i1 z1 (cm.cells pv).toArray 18 ?_ Tryd.underlying46 hi1 hz11 hz12 hz14 ?_ (by decide) (by decide) ?_); rfl; rfl)
                | (at_builtin
                   refine law_append81 (.tmp 52) (.tmp 54) w.heap.size (.slice A' l.length c') l cm pv rfl rfl rfl G6.out.1 G6.out.2.1 G6.out.2.2.1.size rfl (by have := HS.out.2.2.2.2; omega) ?_
                   intro A7 c7 W7 o7 b7 f7
                   have H7 := Lib.hid (And.intro o7 (And.intro (G6.out.2.2.1.trans b7) (G6.out.2.2.2.1.frT f7 (by decide) (by decide))))
                   clear o7 b7 f7)
                | fail)
              go_roundw
              case rel => exact ⟨k + 1, A7, c7, l ++ [cm], q4, by omega, by go_num, by rw [List.length_append]; rfl, by rw [List.length_append, HS.out.2.2.2.2]; rfl, by rw [← H4.out.1]; exact pCmds_snoc HS.out.2.2.2.1 HP.out.1 HGC.out, H7.out.2.2, by rw [List.length_append]; exact H7.out.1, H7.out.2.1⟩
              case measure => simp [intOf]; omega
        · have hkm : k = m := by omega
          have hpc := HS.out.2.2.2.1
          rw [hkm] at hpc
          have k109 := end_any wr w1.heap.size g (xs.drop q) ⟨xs, q, HS.out.1, rfl⟩ a2 (HG.out wr HS.out.2.2.1).2
          by_cases hR : xs.drop q = []
          · rw [if_pos hR] at k109
            have hsome : rdLed xs = some l := by rw [HK2.out.2, hpc]; simp only [Option.bind_some]; rw [if_pos hR]
            have HK3 := Lib.hid (And.intro k109 hsome)
            clear k109 hsome hpc hR hkm
            go_wp2_with (first | (go_at_call 109; refine HK3.out.1.mono ?_; rintro e w4 ⟨rfl, b4⟩; have H4 := Lib.hid b4; clear b4) | fail)
            go_ret2
            exact ⟨HS.out.2.2.1.trans (H4.out.mono HS.out.2.2.1.size), .inr (.inr ⟨xs, H1.out.2.1, .inr ⟨l, _, HK3.out.2, rfl, (HS.out.2.1.fr (Fr.of_below H4.out (fun _ => False)) (Nat.le_refl _) (fun _ _ _ h => h)).wider (Nat.le_refl _) H4.out.size⟩⟩)⟩
          · rw [if_neg hR] at k109
            have hnone : rdLed xs = none := by rw [HK2.out.2, hpc]; simp only [Option.bind_some]; rw [if_neg hR]
            have HK3 := Lib.hid (And.intro k109 hnone)
            clear k109 hnone hpc hR hkm
            go_wp2_with (first | (go_at_call 109; refine HK3.out.1.mono ?_; rintro e w4 ⟨rfl, b4⟩; have H4 := Lib.hid b4; clear b4) | fail)
            go_ret2
            exact ⟨HS.out.2.2.1.trans (H4.out.mono HS.out.2.2.1.size), .inr (.inr ⟨xs, H1.out.2.1, .inl ⟨HK3.out.2, rfl⟩⟩)⟩
end Go.Proofs.YtnlncfjibbdimaaDoor

namespace Go.Proofs.YtnlncfjibbdimaaDoor
open Go.RowKit
set_option linter.unusedSimpArgs false
set_option linter.unusedVariables false
set_option maxHeartbeats 400000 in
theorem ticks_any (n : Int) (w : World) : Calls Tryd.prog 105 #[.int .i64 n] w fun e w' => e = .returned (.bool (tick n)) ∧ w' = w := by
  obtain ⟨r, hr⟩ : ∃ r, r = tick n := ⟨_, rfl⟩
  rw [← hr]
  unfold tick at hr
  have HR := Lib.hid hr
  clear hr
  by_cases h1 : n ≥ 0
  · by_cases h2 : n ≤ 1099511627776
    · go_enter Tryd.func105, Tryd.ntmps105
      go_wp2
      go_ret
      exact ⟨ret_bool (by rw [HR.out]; simp; omega), rfl⟩
    · go_enter Tryd.func105, Tryd.ntmps105
      go_wp2
      go_ret
      exact ⟨ret_bool (by rw [HR.out]; simp; omega), rfl⟩
  · go_enter Tryd.func105, Tryd.ntmps105
    go_wp2
    go_ret
    exact ⟨ret_bool (by rw [HR.out]; simp; omega), rfl⟩
def hexB (b : UInt8) : Bool := decide ((48 ≤ (b.toNat : Int) ∧ (b.toNat : Int) ≤ 57) ∨ (97 ≤ (b.toNat : Int) ∧ (b.toNat : Int) ≤ 102))
theorem set_hexes (b : UInt8) : inSet hexes b = hexB b := by
  revert b
  exact byte_all (by decide +kernel)
/-- ok at byte k: what stood ahead, and the first k bytes are hex. -/
def hUpTo (r : Bool) (s : ByteArray) (k : Nat) : Bool := r && (s.data.toList.take k).all hexB
theorem hUpTo_succ {r : Bool} {s : ByteArray} {k : Nat} {b : UInt8} (h : s.data.toList[k]? = some b) : hUpTo r s (k + 1) = (hUpTo r s k && hexB b) := by
  unfold hUpTo
  rw [all_take_succ h, Bool.and_assoc]
set_option maxRecDepth 100000 in
set_option maxHeartbeats 3200000 in
theorem rpiece_any (a b c z : Int) (s : ByteArray) (hs : s.size ≤ maxLen) (w : World) : Calls Tryd.prog 104 #[.agg #[.int .i64 a, .int .i64 b, .int .i64 c, .int .i64 z, .string s]] w (PiecePost (pieceB a b c z s) w) := by
  have hs' : s.size ≤ 9223372036854775807 := by simpa [maxLen] using hs
  obtain ⟨r1, h1⟩ : ∃ r, r = gid a b c := ⟨_, rfl⟩
  have k41 := fun w => rgoodId_any a b c w
  unfold IdPost at k41
  rw [← h1] at k41
  obtain ⟨r0, h0⟩ : ∃ r, r = (r1 && decide (0 ≤ z ∧ z ≤ 1024) && decide (s.size = 64)) := ⟨_, rfl⟩
  have hr : pieceB a b c z s = hUpTo r0 s s.size := by
    have hln : s.data.toList.length = s.size := by simp
    unfold pieceB hUpTo allB
    rw [h0, h1, ← hln, List.take_length]
    congr 1
    congr 1
    funext x
    exact set_hexes x
  have hln : s.data.toList.length = s.size := by simp
  have HL := Lib.hid hln
  have HR := Lib.hid hr
  have H0 := Lib.hid h0
  clear h1 hr hs h0 hln
  go_enter Tryd.func104, Tryd.ntmps104
  go_upto_region 1 with (fail)
  refine wp_letter (fun W => Below w.heap.size w W ∧ Blk W w.heap.size 79 #[.int .i64 a, .int .i64 b, .int .i64 c, .int .i64 z, .string s]) ⟨(Below.refl w.heap.size w).alloc (Nat.le_refl _) _, Blk.new w 79 _⟩ ?_
  rintro W ⟨hb, hX⟩
  obtain ⟨x, hx⟩ : ∃ x, x = w.heap.size := ⟨_, rfl⟩
  rw [← hx] at hX ⊢
  clear hx
  go_cut [3] (fun v wx => v = .bool r0 ∧ Below w.heap.size w wx ∧ Blk wx x 79 #[.int .i64 a, .int .i64 b, .int .i64 c, .int .i64 z, .string s])
  case first =>
    have cX := hX.cell
    go_wp2_with (fail)
    refine (k41 _).mono ?_
    rintro e w2 ⟨rfl, b2⟩
    have hX2 := hX.below b2 hX.lt
    have hb2 := hb.trans (b2.mono hb.size)
    clear cX hX hb b2
    have cX := hX2.cell
    have HB := Lib.hid (And.intro hb2 hX2)
    clear hb2 hX2
    cases r1 with
    | false =>
      have e0 : r0 = false := by rw [H0.out]; simp
      subst e0
      go_wp2_with (fail)
      go_meet
      exact ⟨rfl, HB.out⟩
    | true =>
      by_cases z0 : z ≥ 0
      · by_cases z1 : z ≤ 1024
        · by_cases s64 : (s.size : Int) = 64
          · have e0 : r0 = true := by rw [H0.out, decide_eq_true (show 0 ≤ z ∧ z ≤ 1024 by omega), decide_eq_true (show s.size = 64 by omega)]; rfl
            subst e0
            go_wp2_with (fail)
            go_meet
            exact ⟨rfl, HB.out⟩
          · have e0 : r0 = false := by rw [H0.out, decide_eq_false (show ¬ s.size = 64 by omega)]; simp
            subst e0
            go_wp2_with (fail)
            go_meet
            exact ⟨by first | rfl | rw [beq_eq_false_iff_ne.2 s64], HB.out⟩
        · have e0 : r0 = false := by rw [H0.out, decide_eq_false (show ¬ (0 ≤ z ∧ z ≤ 1024) by omega)]; simp
          subst e0
          go_wp2_with (fail)
          go_meet
          exact ⟨rfl, HB.out⟩
      · have e0 : r0 = false := by rw [H0.out, decide_eq_false (show ¬ (0 ≤ z ∧ z ≤ 1024) by omega)]; simp
        subst e0
        go_wp2_with (fail)
        go_meet
        exact ⟨rfl, HB.out⟩
  case rest =>
    obtain ⟨rfl, hb, hX⟩ := hcut
    have cX := hX.cell
    have HB := Lib.hid hb
    clear hX hb k41 H0
    have h0 : hUpTo r0 s 0 = r0 := by simp [hUpTo]
    have HU0 := Lib.hid h0
    clear h0
    go_wp2_with (fail)
    go_loop [3, 4] (fun v i => ∃ k : Nat, k ≤ s.size ∧ i = .int .i64 k ∧ v = .bool (hUpTo r0 s k)) (fun _ i => s.size - (intOf i).toNat)
    case atStart => exact ⟨0, Nat.zero_le _, rfl, by rw [HU0.out]⟩
    case round =>
      obtain ⟨k, hk, rfl, rfl⟩ := hrel
      by_cases hlt : k < s.size
      · obtain ⟨b', hb'⟩ : ∃ b, s.data.toList[k]? = some b := ⟨_, List.getElem?_eq_getElem (by rw [HL.out]; exact hlt)⟩
        have hidx := str_index s k b' hb'
        have hup := hUpTo_succ (r := r0) hb'
        obtain ⟨u, hu⟩ : ∃ u, u = hUpTo r0 s k := ⟨_, rfl⟩
        have hkb : hexB b' = decide ((48 ≤ (b'.toNat : Int) ∧ (b'.toNat : Int) ≤ 57) ∨ (97 ≤ (b'.toNat : Int) ∧ (b'.toNat : Int) ≤ 102)) := rfl
        rw [← hu, hkb] at hup
        rw [← hu]
        obtain ⟨d, hd⟩ : ∃ d : Int, d = (b'.toNat : Int) := ⟨_, rfl⟩
        rw [← hd] at hidx hup
        have HU := Lib.hid hup
        clear hup hu hb' hd hkb
        cases u with
        | false =>
          go_wp2
          go_round
          case rel => exact ⟨k + 1, by omega, by go_num, by rw [HU.out]; simp⟩
          case measure => simp [intOf]; omega
        | true =>
          by_cases c1 : d ≥ 48
          · by_cases c2 : d ≤ 57
            · go_wp2
              go_round
              case rel => exact ⟨k + 1, by omega, by go_num, by rw [HU.out]; simp; omega⟩
              case measure => simp [intOf]; omega
            · by_cases c3 : d ≥ 97
              · by_cases c4 : d ≤ 102
                · go_wp2
                  go_round
                  case rel => exact ⟨k + 1, by omega, by go_num, by rw [HU.out]; simp; omega⟩
                  case measure => simp [intOf]; omega
                · go_wp2
                  go_round
                  case rel => exact ⟨k + 1, by omega, by go_num, by rw [HU.out]; simp; omega⟩
                  case measure => simp [intOf]; omega
              · go_wp2
                go_round
                case rel => exact ⟨k + 1, by omega, by go_num, by rw [HU.out]; simp; omega⟩
                case measure => simp [intOf]; omega
          · have c3 : ¬ d ≥ 97 := by omega
            go_wp2
            go_round
            case rel => exact ⟨k + 1, by omega, by go_num, by rw [HU.out]; simp; omega⟩
            case measure => simp [intOf]; omega
      · have hkn : k = s.size := by omega
        obtain ⟨r, hr⟩ : ∃ r, r = hUpTo r0 s k := ⟨_, rfl⟩
        rw [← hr]
        have HK := Lib.hid hkn
        have HRR := Lib.hid hr
        clear hkn hr
        go_wp2
        go_ret
        exact PiecePost.of (by rw [HRR.out, HK.out, HR.out]) HB.out
end Go.Proofs.YtnlncfjibbdimaaDoor

namespace Go.Proofs.YtnlncfjibbdimaaDoor
open Go.RowKit
set_option linter.unusedSimpArgs false
set_option linter.unusedVariables false
theorem wpList_of_quiet {P : Program} {ops : Array Oper} {C : World → Prop} {Q : Exit → Act → World → Prop} : ∀ (l : List Oper) (a : Act) (w : World), C w → wpQuiet P ops C (fun a' => ∀ w', C w' → Q .normal a' w') l a → wpList P ops Q l a w
  | [], a, w, hC, h => h w hC
  | o :: rest, a, w, hC, h => by
    unfold wpQuiet at h
    unfold wpList
    split at h
    · rename_i hw
      simp only [hw, if_true]
      exact .inl (Oper.wp_of_quiet hC (fun a w' hC' h' => wpList_of_quiet rest a w' hC' h') h)
    · rename_i hw
      simp only [hw, Bool.false_eq_true, if_false]
      exact wpList_of_quiet rest _ w hC h
theorem wp_region_lit_below {P : Program} {id : Nat} {Q : Exit → Act → World → Prop} {a : Act} {w : World} {l : List Oper}
    (h : wpQuiet P l.toArray (fun w' => ∃ p : Regrown, w' = Go.Sort.grow (redrawn w p.d) p.os) (fun a' => ∀ w', (∃ p : Regrown, w' = Go.Sort.grow (redrawn w p.d) p.os) → Q .normal a' w') l a) : (Code.region id l.toArray false).wp P Q a w :=
  wp_region_lit (wpList_of_quiet (C := fun w' => ∃ p : Regrown, w' = Go.Sort.grow (redrawn w p.d) p.os) l a w ⟨⟨w.drawn, #[]⟩, by simp [Go.Sort.grow, redrawn]⟩ h)
end Go.Proofs.YtnlncfjibbdimaaDoor
