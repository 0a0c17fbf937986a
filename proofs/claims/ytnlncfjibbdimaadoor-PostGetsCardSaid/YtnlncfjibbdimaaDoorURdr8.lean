/-
  The walk of the command reader's command, both ways: a command is there, or the reader gives up by a panic.
-/
import Derived.Test.YtnlncfjibbdimaaDoorURdr6
import Derived.Test.YtnlncfjibbdimaaDoorURdX
namespace Go.Proofs.YtnlncfjibbdimaaDoor
open Go.RowKit
set_option linter.unusedSimpArgs false
set_option linter.unusedVariables false
section
variable {kn i1 i2 i3 u1 u2 u3 p1 p2 p3 sn ptn n tn dn : Nat} {bucket key etag : ByteArray} {parts : List Int} {L0 L1 L2 L3 L4 L5 L6 L7 L8 L9 L10 L11 L12 R : List Nat}
theorem pCmd_none0 (h0 : pNum L0 = none) : pCmd L0 = none := by simp only [pCmd, h0, Option.bind_none, Option.bind_some]
theorem pCmd_none1 (h0 : pNum L0 = some (kn, L1)) (h1 : pId L1 = none) : pCmd L0 = none := by simp only [pCmd, h0, h1, Option.bind_none, Option.bind_some]
theorem pCmd_none2 (h0 : pNum L0 = some (kn, L1)) (h1 : pId L1 = some ((i1, i2, i3), L2)) (h2 : pText L2 = none) : pCmd L0 = none := by simp only [pCmd, h0, h1, h2, Option.bind_none, Option.bind_some]
theorem pCmd_none3 (h0 : pNum L0 = some (kn, L1)) (h1 : pId L1 = some ((i1, i2, i3), L2)) (h2 : pText L2 = some (bucket, L3)) (h3 : pText L3 = none) : pCmd L0 = none := by simp only [pCmd, h0, h1, h2, h3, Option.bind_none, Option.bind_some]
theorem pCmd_none4 (h0 : pNum L0 = some (kn, L1)) (h1 : pId L1 = some ((i1, i2, i3), L2)) (h2 : pText L2 = some (bucket, L3)) (h3 : pText L3 = some (key, L4)) (h4 : pId L4 = none) : pCmd L0 = none := by simp only [pCmd, h0, h1, h2, h3, h4, Option.bind_none, Option.bind_some]
theorem pCmd_none5 (h0 : pNum L0 = some (kn, L1)) (h1 : pId L1 = some ((i1, i2, i3), L2)) (h2 : pText L2 = some (bucket, L3)) (h3 : pText L3 = some (key, L4)) (h4 : pId L4 = some ((u1, u2, u3), L5)) (h5 : pId L5 = none) : pCmd L0 = none := by simp only [pCmd, h0, h1, h2, h3, h4, h5, Option.bind_none, Option.bind_some]
theorem pCmd_none6 (h0 : pNum L0 = some (kn, L1)) (h1 : pId L1 = some ((i1, i2, i3), L2)) (h2 : pText L2 = some (bucket, L3)) (h3 : pText L3 = some (key, L4)) (h4 : pId L4 = some ((u1, u2, u3), L5)) (h5 : pId L5 = some ((p1, p2, p3), L6)) (h6 : pNum L6 = none) : pCmd L0 = none := by simp only [pCmd, h0, h1, h2, h3, h4, h5, h6, Option.bind_none, Option.bind_some]
theorem pCmd_none7 (h0 : pNum L0 = some (kn, L1)) (h1 : pId L1 = some ((i1, i2, i3), L2)) (h2 : pText L2 = some (bucket, L3)) (h3 : pText L3 = some (key, L4)) (h4 : pId L4 = some ((u1, u2, u3), L5)) (h5 : pId L5 = some ((p1, p2, p3), L6)) (h6 : pNum L6 = some (sn, L7)) (h7 : pText L7 = none) : pCmd L0 = none := by simp only [pCmd, h0, h1, h2, h3, h4, h5, h6, h7, Option.bind_none, Option.bind_some]
theorem pCmd_none8 (h0 : pNum L0 = some (kn, L1)) (h1 : pId L1 = some ((i1, i2, i3), L2)) (h2 : pText L2 = some (bucket, L3)) (h3 : pText L3 = some (key, L4)) (h4 : pId L4 = some ((u1, u2, u3), L5)) (h5 : pId L5 = some ((p1, p2, p3), L6)) (h6 : pNum L6 = some (sn, L7)) (h7 : pText L7 = some (etag, L8)) (h8 : pNum L8 = none) : pCmd L0 = none := by simp only [pCmd, h0, h1, h2, h3, h4, h5, h6, h7, h8, Option.bind_none, Option.bind_some]
theorem pCmd_none9 (h0 : pNum L0 = some (kn, L1)) (h1 : pId L1 = some ((i1, i2, i3), L2)) (h2 : pText L2 = some (bucket, L3)) (h3 : pText L3 = some (key, L4)) (h4 : pId L4 = some ((u1, u2, u3), L5)) (h5 : pId L5 = some ((p1, p2, p3), L6)) (h6 : pNum L6 = some (sn, L7)) (h7 : pText L7 = some (etag, L8)) (h8 : pNum L8 = some (ptn, L9)) (h9 : pNum L9 = none) : pCmd L0 = none := by simp only [pCmd, h0, h1, h2, h3, h4, h5, h6, h7, h8, h9, Option.bind_none, Option.bind_some]
theorem pCmd_none10 (h0 : pNum L0 = some (kn, L1)) (h1 : pId L1 = some ((i1, i2, i3), L2)) (h2 : pText L2 = some (bucket, L3)) (h3 : pText L3 = some (key, L4)) (h4 : pId L4 = some ((u1, u2, u3), L5)) (h5 : pId L5 = some ((p1, p2, p3), L6)) (h6 : pNum L6 = some (sn, L7)) (h7 : pText L7 = some (etag, L8)) (h8 : pNum L8 = some (ptn, L9)) (h9 : pNum L9 = some (n, L10)) (h10 : pNums (min n 17) L10 = none) : pCmd L0 = none := by simp only [pCmd, h0, h1, h2, h3, h4, h5, h6, h7, h8, h9, h10, Option.bind_none, Option.bind_some]
theorem pCmd_none11 (h0 : pNum L0 = some (kn, L1)) (h1 : pId L1 = some ((i1, i2, i3), L2)) (h2 : pText L2 = some (bucket, L3)) (h3 : pText L3 = some (key, L4)) (h4 : pId L4 = some ((u1, u2, u3), L5)) (h5 : pId L5 = some ((p1, p2, p3), L6)) (h6 : pNum L6 = some (sn, L7)) (h7 : pText L7 = some (etag, L8)) (h8 : pNum L8 = some (ptn, L9)) (h9 : pNum L9 = some (n, L10)) (h10 : pNums (min n 17) L10 = some (parts, L11)) (h11 : pNum L11 = none) : pCmd L0 = none := by simp only [pCmd, h0, h1, h2, h3, h4, h5, h6, h7, h8, h9, h10, h11, Option.bind_none, Option.bind_some]
theorem pCmd_none12 (h0 : pNum L0 = some (kn, L1)) (h1 : pId L1 = some ((i1, i2, i3), L2)) (h2 : pText L2 = some (bucket, L3)) (h3 : pText L3 = some (key, L4)) (h4 : pId L4 = some ((u1, u2, u3), L5)) (h5 : pId L5 = some ((p1, p2, p3), L6)) (h6 : pNum L6 = some (sn, L7)) (h7 : pText L7 = some (etag, L8)) (h8 : pNum L8 = some (ptn, L9)) (h9 : pNum L9 = some (n, L10)) (h10 : pNums (min n 17) L10 = some (parts, L11)) (h11 : pNum L11 = some (tn, L12)) (h12 : pNum L12 = none) : pCmd L0 = none := by simp only [pCmd, h0, h1, h2, h3, h4, h5, h6, h7, h8, h9, h10, h11, h12, Option.bind_none, Option.bind_some]
theorem pCmd_some (h0 : pNum L0 = some (kn, L1)) (h1 : pId L1 = some ((i1, i2, i3), L2)) (h2 : pText L2 = some (bucket, L3)) (h3 : pText L3 = some (key, L4)) (h4 : pId L4 = some ((u1, u2, u3), L5)) (h5 : pId L5 = some ((p1, p2, p3), L6)) (h6 : pNum L6 = some (sn, L7)) (h7 : pText L7 = some (etag, L8)) (h8 : pNum L8 = some (ptn, L9)) (h9 : pNum L9 = some (n, L10)) (h10 : pNums (min n 17) L10 = some (parts, L11)) (h11 : pNum L11 = some (tn, L12)) (h12 : pNum L12 = some (dn, R)) : pCmd L0 = some ({ kind := kn, idn := i1, idb := i2, ids := i3, bucket := bucket, key := key, upn := u1, upb := u2, ups := u3, pbn := p1, pbb := p2, pbs := p3, psize := sn, etag := etag, part := ptn, parts := parts, time := tn, days := dn }, R) := by simp only [pCmd, h0, h1, h2, h3, h4, h5, h6, h7, h8, h9, h10, h11, h12, Option.bind_none, Option.bind_some]
end
/-- What command answers. -/
def CmdWay (a2 : Addr) (lo g : Nat) (L0 : List Nat) (w : World) (e : Ending) (w' : World) : Prop :=
  match pCmd L0 with
  | some (c, R) => GotCmd lo g c R w e w'
  | none => Gave a2 g w e w'
theorem CmdWay.of_none {a2 : Addr} {lo g : Nat} {L0 : List Nat} {w w' : World} {e : Ending} (h : pCmd L0 = none) (hg : Gave a2 g w e w') : CmdWay a2 lo g L0 w e w' := by
  unfold CmdWay
  rw [h]
  exact hg
theorem CmdWay.of_some {a2 : Addr} {lo g : Nat} {L0 R : List Nat} {c : Cmd} {w w' : World} {e : Ending} (h : pCmd L0 = some (c, R)) (hg : GotCmd lo g c R w e w') : CmdWay a2 lo g L0 w e w' := by
  unfold CmdWay
  rw [h]
  exact hg
theorem frb {w a b : World} {g : Nat} (hb : Below a.heap.size a b) (h : Fr w.heap.size (fun k => k = g) w a) : Fr w.heap.size (fun k => k = g) w b := FrG.trans h (Fr.of_below hb _)
set_option maxRecDepth 100000 in
set_option maxHeartbeats 6400000 in
theorem rcmd_any (w : World) (lo g : Nat) (L0 : List Nat) (a2 : Addr) (h : Rem w lo g L0) (hlo : 2 < lo) (h2 : w.cell? ⟨2, 0, none⟩ = some (errv a2)) : Calls Tryd.prog 108 #[.agg #[.pointer (some ⟨g, 0, none⟩)]] w (CmdWay a2 lo g L0 w) := by
  have hL0 := h
  have hC : ∀ W, Fr w.heap.size (fun k => k = g) w W → W.cell? ⟨2, 0, none⟩ = some (errv a2) := fun W f => cell2_fr hlo h.lt.1 h2 f
  obtain ⟨kn, L1, k0⟩ := numW a2 lo g L0
  obtain ⟨kind, hkind⟩ : ∃ z : Int, z = (kn : Int) := ⟨_, rfl⟩
  rw [← hkind] at k0
  have HK0 := Lib.hid (fun W hR f => k0 W hR (hC W f))
  obtain ⟨i1, i2, i3, L2, k1⟩ := idW a2 lo g L1 hlo
  obtain ⟨idn, hidn⟩ : ∃ z : Int, z = (i1 : Int) := ⟨_, rfl⟩
  rw [← hidn] at k1
  obtain ⟨idb, hidb⟩ : ∃ z : Int, z = (i2 : Int) := ⟨_, rfl⟩
  rw [← hidb] at k1
  obtain ⟨ids, hids⟩ : ∃ z : Int, z = (i3 : Int) := ⟨_, rfl⟩
  rw [← hids] at k1
  have HK1 := Lib.hid (fun W hR f => k1 W hR (hC W f))
  obtain ⟨bucket, L3, k2⟩ := textW a2 lo g L2
  have HK2 := Lib.hid (fun W hR f => k2 W hR (hC W f))
  obtain ⟨key, L4, k3⟩ := textW a2 lo g L3
  have HK3 := Lib.hid (fun W hR f => k3 W hR (hC W f))
  obtain ⟨u1, u2, u3, L5, k4⟩ := idW a2 lo g L4 hlo
  obtain ⟨upn, hupn⟩ : ∃ z : Int, z = (u1 : Int) := ⟨_, rfl⟩
  rw [← hupn] at k4
  obtain ⟨upb, hupb⟩ : ∃ z : Int, z = (u2 : Int) := ⟨_, rfl⟩
  rw [← hupb] at k4
  obtain ⟨ups, hups⟩ : ∃ z : Int, z = (u3 : Int) := ⟨_, rfl⟩
  rw [← hups] at k4
  have HK4 := Lib.hid (fun W hR f => k4 W hR (hC W f))
  obtain ⟨p1, p2, p3, L6, k5⟩ := idW a2 lo g L5 hlo
  obtain ⟨pbn, hpbn⟩ : ∃ z : Int, z = (p1 : Int) := ⟨_, rfl⟩
  rw [← hpbn] at k5
  obtain ⟨pbb, hpbb⟩ : ∃ z : Int, z = (p2 : Int) := ⟨_, rfl⟩
  rw [← hpbb] at k5
  obtain ⟨pbs, hpbs⟩ : ∃ z : Int, z = (p3 : Int) := ⟨_, rfl⟩
  rw [← hpbs] at k5
  have HK5 := Lib.hid (fun W hR f => k5 W hR (hC W f))
  obtain ⟨sn, L7, k6⟩ := numW a2 lo g L6
  obtain ⟨psize, hpsize⟩ : ∃ z : Int, z = (sn : Int) := ⟨_, rfl⟩
  rw [← hpsize] at k6
  have HK6 := Lib.hid (fun W hR f => k6 W hR (hC W f))
  obtain ⟨etag, L8, k7⟩ := textW a2 lo g L7
  have HK7 := Lib.hid (fun W hR f => k7 W hR (hC W f))
  obtain ⟨ptn, L9, k8⟩ := numW a2 lo g L8
  obtain ⟨part, hpart⟩ : ∃ z : Int, z = (ptn : Int) := ⟨_, rfl⟩
  rw [← hpart] at k8
  have HK8 := Lib.hid (fun W hR f => k8 W hR (hC W f))
  obtain ⟨n, L10, k9⟩ := numW a2 lo g L9
  have HK9 := Lib.hid (fun W hR f => k9 W hR (hC W f))
  obtain ⟨parts, L11, hps⟩ : ∃ ps L11, pNums (min n 17) L10 = none ∨ pNums (min n 17) L10 = some (ps, L11) := by
    cases h : pNums (min n 17) L10 with
    | none => exact ⟨[], [], .inl rfl⟩
    | some x =>
      obtain ⟨ps, L11⟩ := x
      exact ⟨ps, L11, .inr rfl⟩
  obtain ⟨tn, L12, k11⟩ := numW a2 lo g L11
  obtain ⟨time, htime⟩ : ∃ z : Int, z = (tn : Int) := ⟨_, rfl⟩
  rw [← htime] at k11
  have HK11 := Lib.hid (fun W hR f => k11 W hR (hC W f))
  obtain ⟨dn, R, k12⟩ := numW a2 lo g L12
  obtain ⟨days, hdays⟩ : ∃ z : Int, z = (dn : Int) := ⟨_, rfl⟩
  rw [← hdays] at k12
  have HK12 := Lib.hid (fun W hR f => k12 W hR (hC W f))
  have HE : pNum L0 = some (kn, L1) → pId L1 = some ((i1, i2, i3), L2) → pText L2 = some (bucket, L3) → pText L3 = some (key, L4) → pId L4 = some ((u1, u2, u3), L5) → pId L5 = some ((p1, p2, p3), L6) → pNum L6 = some (sn, L7) → pText L7 = some (etag, L8) → pNum L8 = some (ptn, L9) → pNum L9 = some (n, L10) → pNums (min n 17) L10 = some (parts, L11) → pNum L11 = some (tn, L12) → pNum L12 = some (dn, R) → pCmd L0 = some ({ kind := kind, idn := idn, idb := idb, ids := ids, bucket := bucket, key := key, upn := upn, upb := upb, ups := ups, pbn := pbn, pbb := pbb, pbs := pbs, psize := psize, etag := etag, part := part, parts := parts, time := time, days := days }, R) := by
    intro h0 h1 h2 h3 h4 h5 h6 h7 h8 h9 h10 h11 h12
    rw [hkind, hidn, hidb, hids, hupn, hupb, hups, hpbn, hpbb, hpbs, hpsize, hpart, htime, hdays]
    exact pCmd_some h0 h1 h2 h3 h4 h5 h6 h7 h8 h9 h10 h11 h12
  have HE := Lib.hid HE
  have HPS := Lib.hid hps
  have HKN := Lib.hid (fun (L : List Nat) => numW a2 lo g L)
  have HC := Lib.hid hC
  have hgl := hL0.lt.2
  have h1z : (#[.int .i64 kind, .int .i64 idn, .int .i64 idb, .int .i64 ids, .string bucket, .string key, .int .i64 upn, .int .i64 upb, .int .i64 ups, .int .i64 0, .int .i64 0, .int .i64 0, .int .i64 0, .string ⟨#[]⟩, .int .i64 0, .slice none 0 0, .int .i64 0, .int .i64 0] : Array Value).all (·.oneCell') = true := by simp [Value.oneCell']
  clear k0 k1 k2 k3 k4 k5 k6 k7 k8 k9 k11 k12 hC h h2 hps hkind hidn hidb hids hupn hupb hups hpbn hpbb hpbs hpsize hpart htime hdays
  go_enter Tryd.func108, Tryd.ntmps108
  go_upto_region 1 with (fail)
  refine wp_letter (fun W => Rem W lo g L0 ∧ Fr w.heap.size (fun k => k = g) w W ∧ Blk W w.heap.size 187 #[.pointer (some ⟨g, 0, none⟩)] ∧ Blk W (w.heap.size + 1) 81 #[.int .i64 0, .int .i64 0, .int .i64 0, .int .i64 0, .string ⟨#[]⟩, .string ⟨#[]⟩, .int .i64 0, .int .i64 0, .int .i64 0, .int .i64 0, .int .i64 0, .int .i64 0, .int .i64 0, .string ⟨#[]⟩, .int .i64 0, .slice none 0 0, .int .i64 0, .int .i64 0] ∧ w.heap.size + 2 ≤ W.heap.size)
    ⟨(hL0.alloc _).alloc _, ((Fr.refl w.heap.size (fun k => k = g) w).alloc (Nat.le_refl _) _).alloc (by simp) _, (Blk.new w 187 _).alloc _, Blk.new1 w _ 81 _, by simp⟩ ?_
  rintro W ⟨hR, hf, hX, hY, hW⟩
  obtain ⟨x, hx⟩ : ∃ x, x = w.heap.size := ⟨_, rfl⟩
  have hxg : x ≠ g := by omega
  have hyg : x + 1 ≠ g := by omega
  have hxw : w.heap.size ≤ x + 1 := by omega
  rw [← hx] at hX hY hW ⊢
  have cX := hX.cell
  have cX0 := cX 0
  have H0 := Lib.hid (And.intro hR (And.intro hf (And.intro hX hY)))
  have HW := Lib.hid (And.intro hW hx)
  clear hR hf hX hY hx hL0 cX hW
  go_cut [3] from 5 to 15 (fun s wx => ∃ z : Nat, s = .pointer (some ⟨z, 0, none⟩) ∧ x + 2 ≤ z ∧ Rem wx lo g L5 ∧ Fr w.heap.size (fun k => k = g) w wx ∧ Blk wx x 187 #[.pointer (some ⟨g, 0, none⟩)] ∧ Blk wx (x + 1) 81 #[.int .i64 0, .int .i64 0, .int .i64 0, .int .i64 0, .string ⟨#[]⟩, .string ⟨#[]⟩, .int .i64 0, .int .i64 0, .int .i64 0, .int .i64 0, .int .i64 0, .int .i64 0, .int .i64 0, .string ⟨#[]⟩, .int .i64 0, .slice none 0 0, .int .i64 0, .int .i64 0] ∧ Blk wx z 81 #[.int .i64 kind, .int .i64 idn, .int .i64 idb, .int .i64 ids, .string bucket, .string key, .int .i64 upn, .int .i64 upb, .int .i64 ups, .int .i64 0, .int .i64 0, .int .i64 0, .int .i64 0, .string ⟨#[]⟩, .int .i64 0, .slice none 0 0, .int .i64 0, .int .i64 0] ∧ pNum L0 = some (kn, L1) ∧ pId L1 = some ((i1, i2, i3), L2) ∧ pText L2 = some (bucket, L3) ∧ pText L3 = some (key, L4) ∧ pId L4 = some ((u1, u2, u3), L5))
  case first =>
    go_region_held2 (fun w' => w'.cell? ⟨x, 0, none⟩ = some (.pointer (some ⟨g, 0, none⟩))) (go_keep)
      (first
       | (go_at_call 148; (with_reducible refine (HK0.out (W.alloc (.cells #[.int .i64 0, .int .i64 0, .int .i64 0, .int .i64 0, .string ⟨#[]⟩, .string ⟨#[]⟩, .int .i64 0, .int .i64 0, .int .i64 0, .int .i64 0, .int .i64 0, .int .i64 0, .int .i64 0, .string ⟨#[]⟩, .int .i64 0, .slice none 0 0, .int .i64 0, .int .i64 0] 81)).drew (H0.out.1.alloc _).drew (frb (((Below.refl _ _).alloc (Nat.le_refl _) (.cells #[.int .i64 0, .int .i64 0, .int .i64 0, .int .i64 0, .string ⟨#[]⟩, .string ⟨#[]⟩, .int .i64 0, .int .i64 0, .int .i64 0, .int .i64 0, .int .i64 0, .int .i64 0, .int .i64 0, .string ⟨#[]⟩, .int .i64 0, .slice none 0 0, .int .i64 0, .int .i64 0] 81)).drew) H0.out.2.1)).mono ?_); rintro e w1 hh; rcases hh with ⟨⟨rfl, f1⟩, p0⟩ | ⟨⟨rfl, R1, f1⟩, p0⟩; (exact ⟨rfl, CmdWay.of_none (pCmd_none0  p0) ⟨rfl, FrG.trans (frb (((Below.refl _ _).alloc (Nat.le_refl _) (.cells #[.int .i64 0, .int .i64 0, .int .i64 0, .int .i64 0, .string ⟨#[]⟩, .string ⟨#[]⟩, .int .i64 0, .int .i64 0, .int .i64 0, .int .i64 0, .int .i64 0, .int .i64 0, .int .i64 0, .string ⟨#[]⟩, .int .i64 0, .slice none 0 0, .int .i64 0, .int .i64 0] 81)).drew) H0.out.2.1) f1⟩⟩); have P0 := Lib.hid p0; clear p0; have Z1 := (Blk.new W 81 #[.int .i64 0, .int .i64 0, .int .i64 0, .int .i64 0, .string ⟨#[]⟩, .string ⟨#[]⟩, .int .i64 0, .int .i64 0, .int .i64 0, .int .i64 0, .int .i64 0, .int .i64 0, .int .i64 0, .string ⟨#[]⟩, .int .i64 0, .slice none 0 0, .int .i64 0, .int .i64 0]).drew.keep f1 (Nat.ne_of_gt H0.out.1.lt.2); have HZ1 := Lib.hid (And.intro Z1 (And.intro (Nat.ne_of_gt H0.out.1.lt.2) HW.out.1)); clear Z1; have X1 := ((H0.out.2.2.1.alloc (.cells #[.int .i64 0, .int .i64 0, .int .i64 0, .int .i64 0, .string ⟨#[]⟩, .string ⟨#[]⟩, .int .i64 0, .int .i64 0, .int .i64 0, .int .i64 0, .int .i64 0, .int .i64 0, .int .i64 0, .string ⟨#[]⟩, .int .i64 0, .slice none 0 0, .int .i64 0, .int .i64 0] 81)).drew).keep f1 hxg; have Y1 := ((H0.out.2.2.2.alloc (.cells #[.int .i64 0, .int .i64 0, .int .i64 0, .int .i64 0, .string ⟨#[]⟩, .string ⟨#[]⟩, .int .i64 0, .int .i64 0, .int .i64 0, .int .i64 0, .int .i64 0, .int .i64 0, .int .i64 0, .string ⟨#[]⟩, .int .i64 0, .slice none 0 0, .int .i64 0, .int .i64 0] 81)).drew).keep f1 hyg; have c1 := X1.cell 0; have F1 := frtail (((Below.refl _ _).alloc (Nat.le_refl _) (.cells #[.int .i64 0, .int .i64 0, .int .i64 0, .int .i64 0, .string ⟨#[]⟩, .string ⟨#[]⟩, .int .i64 0, .int .i64 0, .int .i64 0, .int .i64 0, .int .i64 0, .int .i64 0, .int .i64 0, .string ⟨#[]⟩, .int .i64 0, .slice none 0 0, .int .i64 0, .int .i64 0] 81)).drew) H0.out.2.1 f1; have s1 := Nat.le_trans HW.out.1 (frsize (((Below.refl _ _).alloc (Nat.le_refl _) (.cells #[.int .i64 0, .int .i64 0, .int .i64 0, .int .i64 0, .string ⟨#[]⟩, .string ⟨#[]⟩, .int .i64 0, .int .i64 0, .int .i64 0, .int .i64 0, .int .i64 0, .int .i64 0, .int .i64 0, .string ⟨#[]⟩, .int .i64 0, .slice none 0 0, .int .i64 0, .int .i64 0] 81)).drew) f1); have HW1 := Lib.hid s1; have H1 := Lib.hid (And.intro R1 (And.intro F1 (And.intro X1 Y1))); clear R1 f1 X1 Y1 F1 s1)
       | (go_at_call 148; (with_reducible refine (HK0.out W.drew H0.out.1.drew (frb ((Below.refl _ _).drew) H0.out.2.1)).mono ?_); rintro e w1 hh; rcases hh with ⟨⟨rfl, f1⟩, p0⟩ | ⟨⟨rfl, R1, f1⟩, p0⟩; (exact ⟨rfl, CmdWay.of_none (pCmd_none0  p0) ⟨rfl, FrG.trans (frb ((Below.refl _ _).drew) H0.out.2.1) f1⟩⟩); have P0 := Lib.hid p0; clear p0; have X1 := (H0.out.2.2.1.drew).keep f1 hxg; have Y1 := (H0.out.2.2.2.drew).keep f1 hyg; have c1 := X1.cell 0; have F1 := frtail ((Below.refl _ _).drew) H0.out.2.1 f1; have s1 := Nat.le_trans HW.out.1 (frsize ((Below.refl _ _).drew) f1); have HW1 := Lib.hid s1; have H1 := Lib.hid (And.intro R1 (And.intro F1 (And.intro X1 Y1))); clear R1 f1 X1 Y1 F1 s1)
       | (go_at_call 149; (with_reducible refine (HK1.out w1 H1.out.1 H1.out.2.1).mono ?_); rintro e w2 hh; rcases hh with ⟨⟨rfl, f2⟩, p1⟩ | ⟨⟨rfl, R2, f2⟩, p1⟩; (exact ⟨rfl, CmdWay.of_none (pCmd_none1 P0.out p1) ⟨rfl, FrG.trans H1.out.2.1 f2⟩⟩); have P1 := Lib.hid p1; clear p1; have Z2 := HZ1.out.1.keep f2 HZ1.out.2.1; have HZ2 := Lib.hid (And.intro Z2 HZ1.out.2); clear Z2; have X2 := H1.out.2.2.1.keep f2 hxg; have Y2 := H1.out.2.2.2.keep f2 hyg; have c2 := X2.cell 0; have F2 := frtail (Below.refl _ _) H1.out.2.1 f2; have s2 := Nat.le_trans HW1.out (frsize (Below.refl _ _) f2); have HW2 := Lib.hid s2; have H2 := Lib.hid (And.intro R2 (And.intro F2 (And.intro X2 Y2))); clear R2 f2 X2 Y2 F2 s2)
       | (go_at_call 149; (with_reducible refine (HK1.out (w1.alloc (.cells #[.int .i64 0, .int .i64 0, .int .i64 0, .int .i64 0, .string ⟨#[]⟩, .string ⟨#[]⟩, .int .i64 0, .int .i64 0, .int .i64 0, .int .i64 0, .int .i64 0, .int .i64 0, .int .i64 0, .string ⟨#[]⟩, .int .i64 0, .slice none 0 0, .int .i64 0, .int .i64 0] 81)) (H1.out.1.alloc _) (frb ((Below.refl _ _).alloc (Nat.le_refl _) (.cells #[.int .i64 0, .int .i64 0, .int .i64 0, .int .i64 0, .string ⟨#[]⟩, .string ⟨#[]⟩, .int .i64 0, .int .i64 0, .int .i64 0, .int .i64 0, .int .i64 0, .int .i64 0, .int .i64 0, .string ⟨#[]⟩, .int .i64 0, .slice none 0 0, .int .i64 0, .int .i64 0] 81)) H1.out.2.1)).mono ?_); rintro e w2 hh; rcases hh with ⟨⟨rfl, f2⟩, p1⟩ | ⟨⟨rfl, R2, f2⟩, p1⟩; (exact ⟨rfl, CmdWay.of_none (pCmd_none1 P0.out p1) ⟨rfl, FrG.trans (frb ((Below.refl _ _).alloc (Nat.le_refl _) (.cells #[.int .i64 0, .int .i64 0, .int .i64 0, .int .i64 0, .string ⟨#[]⟩, .string ⟨#[]⟩, .int .i64 0, .int .i64 0, .int .i64 0, .int .i64 0, .int .i64 0, .int .i64 0, .int .i64 0, .string ⟨#[]⟩, .int .i64 0, .slice none 0 0, .int .i64 0, .int .i64 0] 81)) H1.out.2.1) f2⟩⟩); have P1 := Lib.hid p1; clear p1; have Z2 := (Blk.new w1 81 #[.int .i64 0, .int .i64 0, .int .i64 0, .int .i64 0, .string ⟨#[]⟩, .string ⟨#[]⟩, .int .i64 0, .int .i64 0, .int .i64 0, .int .i64 0, .int .i64 0, .int .i64 0, .int .i64 0, .string ⟨#[]⟩, .int .i64 0, .slice none 0 0, .int .i64 0, .int .i64 0]).keep f2 (Nat.ne_of_gt H1.out.1.lt.2); have HZ2 := Lib.hid (And.intro Z2 (And.intro (Nat.ne_of_gt H1.out.1.lt.2) HW1.out)); clear Z2; have X2 := (H1.out.2.2.1.alloc (.cells #[.int .i64 0, .int .i64 0, .int .i64 0, .int .i64 0, .string ⟨#[]⟩, .string ⟨#[]⟩, .int .i64 0, .int .i64 0, .int .i64 0, .int .i64 0, .int .i64 0, .int .i64 0, .int .i64 0, .string ⟨#[]⟩, .int .i64 0, .slice none 0 0, .int .i64 0, .int .i64 0] 81)).keep f2 hxg; have Y2 := (H1.out.2.2.2.alloc (.cells #[.int .i64 0, .int .i64 0, .int .i64 0, .int .i64 0, .string ⟨#[]⟩, .string ⟨#[]⟩, .int .i64 0, .int .i64 0, .int .i64 0, .int .i64 0, .int .i64 0, .int .i64 0, .int .i64 0, .string ⟨#[]⟩, .int .i64 0, .slice none 0 0, .int .i64 0, .int .i64 0] 81)).keep f2 hyg; have c2 := X2.cell 0; have F2 := frtail ((Below.refl _ _).alloc (Nat.le_refl _) (.cells #[.int .i64 0, .int .i64 0, .int .i64 0, .int .i64 0, .string ⟨#[]⟩, .string ⟨#[]⟩, .int .i64 0, .int .i64 0, .int .i64 0, .int .i64 0, .int .i64 0, .int .i64 0, .int .i64 0, .string ⟨#[]⟩, .int .i64 0, .slice none 0 0, .int .i64 0, .int .i64 0] 81)) H1.out.2.1 f2; have s2 := Nat.le_trans HW1.out (frsize ((Below.refl _ _).alloc (Nat.le_refl _) (.cells #[.int .i64 0, .int .i64 0, .int .i64 0, .int .i64 0, .string ⟨#[]⟩, .string ⟨#[]⟩, .int .i64 0, .int .i64 0, .int .i64 0, .int .i64 0, .int .i64 0, .int .i64 0, .int .i64 0, .string ⟨#[]⟩, .int .i64 0, .slice none 0 0, .int .i64 0, .int .i64 0] 81)) f2); have HW2 := Lib.hid s2; have H2 := Lib.hid (And.intro R2 (And.intro F2 (And.intro X2 Y2))); clear R2 f2 X2 Y2 F2 s2)
       | (go_at_call 149; (with_reducible refine (HK1.out w1 H1.out.1 H1.out.2.1).mono ?_); rintro e w2 hh; rcases hh with ⟨⟨rfl, f2⟩, p1⟩ | ⟨⟨rfl, R2, f2⟩, p1⟩; (exact ⟨rfl, CmdWay.of_none (pCmd_none1 P0.out p1) ⟨rfl, FrG.trans H1.out.2.1 f2⟩⟩); have P1 := Lib.hid p1; clear p1; have X2 := H1.out.2.2.1.keep f2 hxg; have Y2 := H1.out.2.2.2.keep f2 hyg; have c2 := X2.cell 0; have F2 := frtail (Below.refl _ _) H1.out.2.1 f2; have s2 := Nat.le_trans HW1.out (frsize (Below.refl _ _) f2); have HW2 := Lib.hid s2; have H2 := Lib.hid (And.intro R2 (And.intro F2 (And.intro X2 Y2))); clear R2 f2 X2 Y2 F2 s2)
       | (go_at_call 150; (with_reducible refine (HK2.out w2 H2.out.1 H2.out.2.1).mono ?_); rintro e w3 hh; rcases hh with ⟨⟨rfl, f3⟩, p2⟩ | ⟨⟨rfl, R3, f3⟩, p2⟩; (exact ⟨rfl, CmdWay.of_none (pCmd_none2 P0.out P1.out p2) ⟨rfl, FrG.trans H2.out.2.1 f3⟩⟩); have P2 := Lib.hid p2; clear p2; have Z3 := HZ2.out.1.keep f3 HZ2.out.2.1; have HZ3 := Lib.hid (And.intro Z3 HZ2.out.2); clear Z3; have X3 := H2.out.2.2.1.keep f3 hxg; have Y3 := H2.out.2.2.2.keep f3 hyg; have c3 := X3.cell 0; have F3 := frtail (Below.refl _ _) H2.out.2.1 f3; have s3 := Nat.le_trans HW2.out (frsize (Below.refl _ _) f3); have HW3 := Lib.hid s3; have H3 := Lib.hid (And.intro R3 (And.intro F3 (And.intro X3 Y3))); clear R3 f3 X3 Y3 F3 s3)
       | (go_at_call 150; (with_reducible refine (HK2.out (w2.alloc (.cells #[.int .i64 0, .int .i64 0, .int .i64 0, .int .i64 0, .string ⟨#[]⟩, .string ⟨#[]⟩, .int .i64 0, .int .i64 0, .int .i64 0, .int .i64 0, .int .i64 0, .int .i64 0, .int .i64 0, .string ⟨#[]⟩, .int .i64 0, .slice none 0 0, .int .i64 0, .int .i64 0] 81)) (H2.out.1.alloc _) (frb ((Below.refl _ _).alloc (Nat.le_refl _) (.cells #[.int .i64 0, .int .i64 0, .int .i64 0, .int .i64 0, .string ⟨#[]⟩, .string ⟨#[]⟩, .int .i64 0, .int .i64 0, .int .i64 0, .int .i64 0, .int .i64 0, .int .i64 0, .int .i64 0, .string ⟨#[]⟩, .int .i64 0, .slice none 0 0, .int .i64 0, .int .i64 0] 81)) H2.out.2.1)).mono ?_); rintro e w3 hh; rcases hh with ⟨⟨rfl, f3⟩, p2⟩ | ⟨⟨rfl, R3, f3⟩, p2⟩; (exact ⟨rfl, CmdWay.of_none (pCmd_none2 P0.out P1.out p2) ⟨rfl, FrG.trans (frb ((Below.refl _ _).alloc (Nat.le_refl _) (.cells #[.int .i64 0, .int .i64 0, .int .i64 0, .int .i64 0, .string ⟨#[]⟩, .string ⟨#[]⟩, .int .i64 0, .int .i64 0, .int .i64 0, .int .i64 0, .int .i64 0, .int .i64 0, .int .i64 0, .string ⟨#[]⟩, .int .i64 0, .slice none 0 0, .int .i64 0, .int .i64 0] 81)) H2.out.2.1) f3⟩⟩); have P2 := Lib.hid p2; clear p2; have Z3 := (Blk.new w2 81 #[.int .i64 0, .int .i64 0, .int .i64 0, .int .i64 0, .string ⟨#[]⟩, .string ⟨#[]⟩, .int .i64 0, .int .i64 0, .int .i64 0, .int .i64 0, .int .i64 0, .int .i64 0, .int .i64 0, .string ⟨#[]⟩, .int .i64 0, .slice none 0 0, .int .i64 0, .int .i64 0]).keep f3 (Nat.ne_of_gt H2.out.1.lt.2); have HZ3 := Lib.hid (And.intro Z3 (And.intro (Nat.ne_of_gt H2.out.1.lt.2) HW2.out)); clear Z3; have X3 := (H2.out.2.2.1.alloc (.cells #[.int .i64 0, .int .i64 0, .int .i64 0, .int .i64 0, .string ⟨#[]⟩, .string ⟨#[]⟩, .int .i64 0, .int .i64 0, .int .i64 0, .int .i64 0, .int .i64 0, .int .i64 0, .int .i64 0, .string ⟨#[]⟩, .int .i64 0, .slice none 0 0, .int .i64 0, .int .i64 0] 81)).keep f3 hxg; have Y3 := (H2.out.2.2.2.alloc (.cells #[.int .i64 0, .int .i64 0, .int .i64 0, .int .i64 0, .string ⟨#[]⟩, .string ⟨#[]⟩, .int .i64 0, .int .i64 0, .int .i64 0, .int .i64 0, .int .i64 0, .int .i64 0, .int .i64 0, .string ⟨#[]⟩, .int .i64 0, .slice none 0 0, .int .i64 0, .int .i64 0] 81)).keep f3 hyg; have c3 := X3.cell 0; have F3 := frtail ((Below.refl _ _).alloc (Nat.le_refl _) (.cells #[.int .i64 0, .int .i64 0, .int .i64 0, .int .i64 0, .string ⟨#[]⟩, .string ⟨#[]⟩, .int .i64 0, .int .i64 0, .int .i64 0, .int .i64 0, .int .i64 0, .int .i64 0, .int .i64 0, .string ⟨#[]⟩, .int .i64 0, .slice none 0 0, .int .i64 0, .int .i64 0] 81)) H2.out.2.1 f3; have s3 := Nat.le_trans HW2.out (frsize ((Below.refl _ _).alloc (Nat.le_refl _) (.cells #[.int .i64 0, .int .i64 0, .int .i64 0, .int .i64 0, .string ⟨#[]⟩, .string ⟨#[]⟩, .int .i64 0, .int .i64 0, .int .i64 0, .int .i64 0, .int .i64 0, .int .i64 0, .int .i64 0, .string ⟨#[]⟩, .int .i64 0, .slice none 0 0, .int .i64 0, .int .i64 0] 81)) f3); have HW3 := Lib.hid s3; have H3 := Lib.hid (And.intro R3 (And.intro F3 (And.intro X3 Y3))); clear R3 f3 X3 Y3 F3 s3)
       | (go_at_call 150; (with_reducible refine (HK2.out w2 H2.out.1 H2.out.2.1).mono ?_); rintro e w3 hh; rcases hh with ⟨⟨rfl, f3⟩, p2⟩ | ⟨⟨rfl, R3, f3⟩, p2⟩; (exact ⟨rfl, CmdWay.of_none (pCmd_none2 P0.out P1.out p2) ⟨rfl, FrG.trans H2.out.2.1 f3⟩⟩); have P2 := Lib.hid p2; clear p2; have X3 := H2.out.2.2.1.keep f3 hxg; have Y3 := H2.out.2.2.2.keep f3 hyg; have c3 := X3.cell 0; have F3 := frtail (Below.refl _ _) H2.out.2.1 f3; have s3 := Nat.le_trans HW2.out (frsize (Below.refl _ _) f3); have HW3 := Lib.hid s3; have H3 := Lib.hid (And.intro R3 (And.intro F3 (And.intro X3 Y3))); clear R3 f3 X3 Y3 F3 s3)
       | (go_at_call 150; (with_reducible refine (HK3.out w3 H3.out.1 H3.out.2.1).mono ?_); rintro e w4 hh; rcases hh with ⟨⟨rfl, f4⟩, p3⟩ | ⟨⟨rfl, R4, f4⟩, p3⟩; (exact ⟨rfl, CmdWay.of_none (pCmd_none3 P0.out P1.out P2.out p3) ⟨rfl, FrG.trans H3.out.2.1 f4⟩⟩); have P3 := Lib.hid p3; clear p3; have Z4 := HZ3.out.1.keep f4 HZ3.out.2.1; have HZ4 := Lib.hid (And.intro Z4 HZ3.out.2); clear Z4; have X4 := H3.out.2.2.1.keep f4 hxg; have Y4 := H3.out.2.2.2.keep f4 hyg; have c4 := X4.cell 0; have F4 := frtail (Below.refl _ _) H3.out.2.1 f4; have s4 := Nat.le_trans HW3.out (frsize (Below.refl _ _) f4); have HW4 := Lib.hid s4; have H4 := Lib.hid (And.intro R4 (And.intro F4 (And.intro X4 Y4))); clear R4 f4 X4 Y4 F4 s4)
       | (go_at_call 150; (with_reducible refine (HK3.out (w3.alloc (.cells #[.int .i64 0, .int .i64 0, .int .i64 0, .int .i64 0, .string ⟨#[]⟩, .string ⟨#[]⟩, .int .i64 0, .int .i64 0, .int .i64 0, .int .i64 0, .int .i64 0, .int .i64 0, .int .i64 0, .string ⟨#[]⟩, .int .i64 0, .slice none 0 0, .int .i64 0, .int .i64 0] 81)) (H3.out.1.alloc _) (frb ((Below.refl _ _).alloc (Nat.le_refl _) (.cells #[.int .i64 0, .int .i64 0, .int .i64 0, .int .i64 0, .string ⟨#[]⟩, .string ⟨#[]⟩, .int .i64 0, .int .i64 0, .int .i64 0, .int .i64 0, .int .i64 0, .int .i64 0, .int .i64 0, .string ⟨#[]⟩, .int .i64 0, .slice none 0 0, .int .i64 0, .int .i64 0] 81)) H3.out.2.1)).mono ?_); rintro e w4 hh; rcases hh with ⟨⟨rfl, f4⟩, p3⟩ | ⟨⟨rfl, R4, f4⟩, p3⟩; (exact ⟨rfl, CmdWay.of_none (pCmd_none3 P0.out P1.out P2.out p3) ⟨rfl, FrG.trans (frb ((Below.refl _ _).alloc (Nat.le_refl _) (.cells #[.int .i64 0, .int .i64 0, .int .i64 0, .int .i64 0, .string ⟨#[]⟩, .string ⟨#[]⟩, .int .i64 0, .int .i64 0, .int .i64 0, .int .i64 0, .int .i64 0, .int .i64 0, .int .i64 0, .string ⟨#[]⟩, .int .i64 0, .slice none 0 0, .int .i64 0, .int .i64 0] 81)) H3.out.2.1) f4⟩⟩); have P3 := Lib.hid p3; clear p3; have Z4 := (Blk.new w3 81 #[.int .i64 0, .int .i64 0, .int .i64 0, .int .i64 0, .string ⟨#[]⟩, .string ⟨#[]⟩, .int .i64 0, .int .i64 0, .int .i64 0, .int .i64 0, .int .i64 0, .int .i64 0, .int .i64 0, .string ⟨#[]⟩, .int .i64 0, .slice none 0 0, .int .i64 0, .int .i64 0]).keep f4 (Nat.ne_of_gt H3.out.1.lt.2); have HZ4 := Lib.hid (And.intro Z4 (And.intro (Nat.ne_of_gt H3.out.1.lt.2) HW3.out)); clear Z4; have X4 := (H3.out.2.2.1.alloc (.cells #[.int .i64 0, .int .i64 0, .int .i64 0, .int .i64 0, .string ⟨#[]⟩, .string ⟨#[]⟩, .int .i64 0, .int .i64 0, .int .i64 0, .int .i64 0, .int .i64 0, .int .i64 0, .int .i64 0, .string ⟨#[]⟩, .int .i64 0, .slice none 0 0, .int .i64 0, .int .i64 0] 81)).keep f4 hxg; have Y4 := (H3.out.2.2.2.alloc (.cells #[.int .i64 0, .int .i64 0, .int .i64 0, .int .i64 0, .string ⟨#[]⟩, .string ⟨#[]⟩, .int .i64 0, .int .i64 0, .int .i64 0, .int .i64 0, .int .i64 0, .int .i64 0, .int .i64 0, .string ⟨#[]⟩, .int .i64 0, .slice none 0 0, .int .i64 0, .int .i64 0] 81)).keep f4 hyg; have c4 := X4.cell 0; have F4 := frtail ((Below.refl _ _).alloc (Nat.le_refl _) (.cells #[.int .i64 0, .int .i64 0, .int .i64 0, .int .i64 0, .string ⟨#[]⟩, .string ⟨#[]⟩, .int .i64 0, .int .i64 0, .int .i64 0, .int .i64 0, .int .i64 0, .int .i64 0, .int .i64 0, .string ⟨#[]⟩, .int .i64 0, .slice none 0 0, .int .i64 0, .int .i64 0] 81)) H3.out.2.1 f4; have s4 := Nat.le_trans HW3.out (frsize ((Below.refl _ _).alloc (Nat.le_refl _) (.cells #[.int .i64 0, .int .i64 0, .int .i64 0, .int .i64 0, .string ⟨#[]⟩, .string ⟨#[]⟩, .int .i64 0, .int .i64 0, .int .i64 0, .int .i64 0, .int .i64 0, .int .i64 0, .int .i64 0, .string ⟨#[]⟩, .int .i64 0, .slice none 0 0, .int .i64 0, .int .i64 0] 81)) f4); have HW4 := Lib.hid s4; have H4 := Lib.hid (And.intro R4 (And.intro F4 (And.intro X4 Y4))); clear R4 f4 X4 Y4 F4 s4)
       | (go_at_call 150; (with_reducible refine (HK3.out w3 H3.out.1 H3.out.2.1).mono ?_); rintro e w4 hh; rcases hh with ⟨⟨rfl, f4⟩, p3⟩ | ⟨⟨rfl, R4, f4⟩, p3⟩; (exact ⟨rfl, CmdWay.of_none (pCmd_none3 P0.out P1.out P2.out p3) ⟨rfl, FrG.trans H3.out.2.1 f4⟩⟩); have P3 := Lib.hid p3; clear p3; have X4 := H3.out.2.2.1.keep f4 hxg; have Y4 := H3.out.2.2.2.keep f4 hyg; have c4 := X4.cell 0; have F4 := frtail (Below.refl _ _) H3.out.2.1 f4; have s4 := Nat.le_trans HW3.out (frsize (Below.refl _ _) f4); have HW4 := Lib.hid s4; have H4 := Lib.hid (And.intro R4 (And.intro F4 (And.intro X4 Y4))); clear R4 f4 X4 Y4 F4 s4)
       | (go_at_call 149; (with_reducible refine (HK4.out w4 H4.out.1 H4.out.2.1).mono ?_); rintro e w5 hh; rcases hh with ⟨⟨rfl, f5⟩, p4⟩ | ⟨⟨rfl, R5, f5⟩, p4⟩; (exact ⟨rfl, CmdWay.of_none (pCmd_none4 P0.out P1.out P2.out P3.out p4) ⟨rfl, FrG.trans H4.out.2.1 f5⟩⟩); have P4 := Lib.hid p4; clear p4; have Z5 := HZ4.out.1.keep f5 HZ4.out.2.1; have HZ5 := Lib.hid (And.intro Z5 HZ4.out.2); have nz := ne2 HZ5.out.2.2; have hz5 := HZ5.out.2.1; have X5 := H4.out.2.2.1.keep f5 hxg; have Y5 := H4.out.2.2.2.keep f5 hyg; have c5 := X5.cell 0; have F5 := frtail (Below.refl _ _) H4.out.2.1 f5; have s5 := Nat.le_trans HW4.out (frsize (Below.refl _ _) f5); have HW5 := Lib.hid s5; have H5 := Lib.hid (And.intro R5 (And.intro F5 (And.intro X5 Y5))); obtain ⟨W6, e1, A6, q1, q2, q3⟩ := store81 #[.int .i64 kind, .int .i64 idn, .int .i64 idb, .int .i64 ids, .string bucket, .string key, .int .i64 upn, .int .i64 upb, .int .i64 ups, .int .i64 0, .int .i64 0, .int .i64 0, .int .i64 0, .string ⟨#[]⟩, .int .i64 0, .slice none 0 0, .int .i64 0, .int .i64 0] Z5 rfl h1z; have X6 := q1 _ _ _ X5 nz; have Y6 := q1 _ _ _ Y5 (ne1 HZ5.out.2.2); have R6 := q2 _ _ _ R5 hz5; have F6 := F5.trans (q3 _ _ (.inr (zlow HW.out.2 HZ5.out.2.2))); clear q1 q2 q3 Z5; simp [go_sem] at e1; have c6 := X6.cell 0; have H6 := Lib.hid (And.intro R6 (And.intro F6 (And.intro X6 (And.intro Y6 A6)))); clear A6 X6 Y6 R6 F6; clear R5 f5 X5 Y5 F5 s5)
       | (go_at_call 149; (with_reducible refine (HK4.out (w4.alloc (.cells #[.int .i64 0, .int .i64 0, .int .i64 0, .int .i64 0, .string ⟨#[]⟩, .string ⟨#[]⟩, .int .i64 0, .int .i64 0, .int .i64 0, .int .i64 0, .int .i64 0, .int .i64 0, .int .i64 0, .string ⟨#[]⟩, .int .i64 0, .slice none 0 0, .int .i64 0, .int .i64 0] 81)) (H4.out.1.alloc _) (frb ((Below.refl _ _).alloc (Nat.le_refl _) (.cells #[.int .i64 0, .int .i64 0, .int .i64 0, .int .i64 0, .string ⟨#[]⟩, .string ⟨#[]⟩, .int .i64 0, .int .i64 0, .int .i64 0, .int .i64 0, .int .i64 0, .int .i64 0, .int .i64 0, .string ⟨#[]⟩, .int .i64 0, .slice none 0 0, .int .i64 0, .int .i64 0] 81)) H4.out.2.1)).mono ?_); rintro e w5 hh; rcases hh with ⟨⟨rfl, f5⟩, p4⟩ | ⟨⟨rfl, R5, f5⟩, p4⟩; (exact ⟨rfl, CmdWay.of_none (pCmd_none4 P0.out P1.out P2.out P3.out p4) ⟨rfl, FrG.trans (frb ((Below.refl _ _).alloc (Nat.le_refl _) (.cells #[.int .i64 0, .int .i64 0, .int .i64 0, .int .i64 0, .string ⟨#[]⟩, .string ⟨#[]⟩, .int .i64 0, .int .i64 0, .int .i64 0, .int .i64 0, .int .i64 0, .int .i64 0, .int .i64 0, .string ⟨#[]⟩, .int .i64 0, .slice none 0 0, .int .i64 0, .int .i64 0] 81)) H4.out.2.1) f5⟩⟩); have P4 := Lib.hid p4; clear p4; have Z5 := (Blk.new w4 81 #[.int .i64 0, .int .i64 0, .int .i64 0, .int .i64 0, .string ⟨#[]⟩, .string ⟨#[]⟩, .int .i64 0, .int .i64 0, .int .i64 0, .int .i64 0, .int .i64 0, .int .i64 0, .int .i64 0, .string ⟨#[]⟩, .int .i64 0, .slice none 0 0, .int .i64 0, .int .i64 0]).keep f5 (Nat.ne_of_gt H4.out.1.lt.2); have HZ5 := Lib.hid (And.intro Z5 (And.intro (Nat.ne_of_gt H4.out.1.lt.2) HW4.out)); have nz := ne2 HZ5.out.2.2; have hz5 := HZ5.out.2.1; have X5 := (H4.out.2.2.1.alloc (.cells #[.int .i64 0, .int .i64 0, .int .i64 0, .int .i64 0, .string ⟨#[]⟩, .string ⟨#[]⟩, .int .i64 0, .int .i64 0, .int .i64 0, .int .i64 0, .int .i64 0, .int .i64 0, .int .i64 0, .string ⟨#[]⟩, .int .i64 0, .slice none 0 0, .int .i64 0, .int .i64 0] 81)).keep f5 hxg; have Y5 := (H4.out.2.2.2.alloc (.cells #[.int .i64 0, .int .i64 0, .int .i64 0, .int .i64 0, .string ⟨#[]⟩, .string ⟨#[]⟩, .int .i64 0, .int .i64 0, .int .i64 0, .int .i64 0, .int .i64 0, .int .i64 0, .int .i64 0, .string ⟨#[]⟩, .int .i64 0, .slice none 0 0, .int .i64 0, .int .i64 0] 81)).keep f5 hyg; have c5 := X5.cell 0; have F5 := frtail ((Below.refl _ _).alloc (Nat.le_refl _) (.cells #[.int .i64 0, .int .i64 0, .int .i64 0, .int .i64 0, .string ⟨#[]⟩, .string ⟨#[]⟩, .int .i64 0, .int .i64 0, .int .i64 0, .int .i64 0, .int .i64 0, .int .i64 0, .int .i64 0, .string ⟨#[]⟩, .int .i64 0, .slice none 0 0, .int .i64 0, .int .i64 0] 81)) H4.out.2.1 f5; have s5 := Nat.le_trans HW4.out (frsize ((Below.refl _ _).alloc (Nat.le_refl _) (.cells #[.int .i64 0, .int .i64 0, .int .i64 0, .int .i64 0, .string ⟨#[]⟩, .string ⟨#[]⟩, .int .i64 0, .int .i64 0, .int .i64 0, .int .i64 0, .int .i64 0, .int .i64 0, .int .i64 0, .string ⟨#[]⟩, .int .i64 0, .slice none 0 0, .int .i64 0, .int .i64 0] 81)) f5); have HW5 := Lib.hid s5; have H5 := Lib.hid (And.intro R5 (And.intro F5 (And.intro X5 Y5))); obtain ⟨W6, e1, A6, q1, q2, q3⟩ := store81 #[.int .i64 kind, .int .i64 idn, .int .i64 idb, .int .i64 ids, .string bucket, .string key, .int .i64 upn, .int .i64 upb, .int .i64 ups, .int .i64 0, .int .i64 0, .int .i64 0, .int .i64 0, .string ⟨#[]⟩, .int .i64 0, .slice none 0 0, .int .i64 0, .int .i64 0] Z5 rfl h1z; have X6 := q1 _ _ _ X5 nz; have Y6 := q1 _ _ _ Y5 (ne1 HZ5.out.2.2); have R6 := q2 _ _ _ R5 hz5; have F6 := F5.trans (q3 _ _ (.inr (zlow HW.out.2 HZ5.out.2.2))); clear q1 q2 q3 Z5; simp [go_sem] at e1; have c6 := X6.cell 0; have H6 := Lib.hid (And.intro R6 (And.intro F6 (And.intro X6 (And.intro Y6 A6)))); clear A6 X6 Y6 R6 F6; clear R5 f5 X5 Y5 F5 s5)
       | (go_at_call 149; (with_reducible refine (HK4.out w4 H4.out.1 H4.out.2.1).mono ?_); rintro e w5 hh; rcases hh with ⟨⟨rfl, f5⟩, p4⟩ | ⟨⟨rfl, R5, f5⟩, p4⟩; (exact ⟨rfl, CmdWay.of_none (pCmd_none4 P0.out P1.out P2.out P3.out p4) ⟨rfl, FrG.trans H4.out.2.1 f5⟩⟩); have P4 := Lib.hid p4; clear p4; have X5 := H4.out.2.2.1.keep f5 hxg; have Y5 := H4.out.2.2.2.keep f5 hyg; have c5 := X5.cell 0; have F5 := frtail (Below.refl _ _) H4.out.2.1 f5; have s5 := Nat.le_trans HW4.out (frsize (Below.refl _ _) f5); have HW5 := Lib.hid s5; have H5 := Lib.hid (And.intro R5 (And.intro F5 (And.intro X5 Y5))); have nw := ne2 s5; have nw' := Ne.symm nw; clear R5 f5 X5 Y5 F5 s5))
    all_goals first
      | (clear e1
         go_wp2_with (fail)
         go_meet
         exact ⟨_, rfl, HZ5.out.2.2, H6.out.1, H6.out.2.1, H6.out.2.2.1, H6.out.2.2.2.1, H6.out.2.2.2.2, P0.out, P1.out, P2.out, P3.out, P4.out⟩)
      | skip
    have hF := H5.out.2.1.alloc (Nat.le_trans (by have := HW.out.2; omega) HW5.out) (.cells #[.int .i64 kind, .int .i64 idn, .int .i64 idb, .int .i64 ids, .string bucket, .string key, .int .i64 upn, .int .i64 upb, .int .i64 ups, .int .i64 0, .int .i64 0, .int .i64 0, .int .i64 0, .string ⟨#[]⟩, .int .i64 0, .slice none 0 0, .int .i64 0, .int .i64 0] 81)
    have HQ := Lib.hid hF
    clear hF
    go_wp2_with (fail)
    go_meet
    exact ⟨_, rfl, HW5.out, H5.out.1.alloc _, HQ.out, H5.out.2.2.1.alloc _, H5.out.2.2.2.alloc _, Blk.new w5 81 _, P0.out, P1.out, P2.out, P3.out, P4.out⟩
  case rest =>
    obtain ⟨z, rfl, hz2, hR5, hF5, hX5, hY5, hZ5, p0, p1, p2, p3, p4⟩ := hcut
    have P0 := Lib.hid p0
    have P1 := Lib.hid p1
    have P2 := Lib.hid p2
    have P3 := Lib.hid p3
    have P4 := Lib.hid p4
    clear p0 p1 p2 p3 p4
    have hzg : z ≠ g := by have := HW.out.2; omega
    have nz := ne2 hz2
    have nz' := Ne.symm nz
    have ny := ne1 hz2
    have hzw := zlow HW.out.2 hz2
    have HS := Lib.hid (And.intro hR5 (And.intro hF5 (And.intro hX5 (And.intro hY5 hZ5))))
    have cX0 := hX5.cell 0
    clear hR5 hF5 hX5 hY5 hZ5
    go_upto_region 2 with (fail)
    have HT := Lib.hid (show Rem wc.drew lo g L5 ∧ Fr w.heap.size (fun k => k = g) w wc.drew ∧ Blk wc.drew x 187 #[.pointer (some ⟨g, 0, none⟩)] ∧ Blk wc.drew (x + 1) 81 #[.int .i64 0, .int .i64 0, .int .i64 0, .int .i64 0, .string ⟨#[]⟩, .string ⟨#[]⟩, .int .i64 0, .int .i64 0, .int .i64 0, .int .i64 0, .int .i64 0, .int .i64 0, .int .i64 0, .string ⟨#[]⟩, .int .i64 0, .slice none 0 0, .int .i64 0, .int .i64 0] ∧ Blk wc.drew z 81 #[.int .i64 kind, .int .i64 idn, .int .i64 idb, .int .i64 ids, .string bucket, .string key, .int .i64 upn, .int .i64 upb, .int .i64 ups, .int .i64 0, .int .i64 0, .int .i64 0, .int .i64 0, .string ⟨#[]⟩, .int .i64 0, .slice none 0 0, .int .i64 0, .int .i64 0] from ⟨HS.out.1.drew, HS.out.2.1.drew, HS.out.2.2.1.drew, HS.out.2.2.2.1.drew, HS.out.2.2.2.2.drew⟩)
    go_region_held2 (fun w' => w'.cell? ⟨x, 0, none⟩ = some (.pointer (some ⟨g, 0, none⟩))) (go_keep)
      (first
       | (go_at_call 149; (with_reducible refine (HK5.out wc.drew HT.out.1 HT.out.2.1).mono ?_); rintro e w6 hh; rcases hh with ⟨⟨rfl, f6⟩, p5⟩ | ⟨⟨rfl, R6, f6⟩, p5⟩; (exact ⟨rfl, CmdWay.of_none (pCmd_none5 P0.out P1.out P2.out P3.out P4.out p5) ⟨rfl, FrG.trans HT.out.2.1 f6⟩⟩); have P5 := Lib.hid p5; clear p5; have H6 := Lib.hid (And.intro R6 (And.intro (FrG.trans HT.out.2.1 f6) (And.intro (HT.out.2.2.1.keep f6 hxg) (And.intro (HT.out.2.2.2.1.keep f6 hyg) (HT.out.2.2.2.2.keep f6 hzg))))); have c6 := H6.out.2.2.1.cell 0; clear R6 f6)
       | (go_at_call 148; (with_reducible refine (HK6.out w6 H6.out.1 H6.out.2.1).mono ?_); rintro e w7 hh; rcases hh with ⟨⟨rfl, f7⟩, p6⟩ | ⟨⟨rfl, R7, f7⟩, p6⟩; (exact ⟨rfl, CmdWay.of_none (pCmd_none6 P0.out P1.out P2.out P3.out P4.out P5.out p6) ⟨rfl, FrG.trans H6.out.2.1 f7⟩⟩); have P6 := Lib.hid p6; clear p6; have H7 := Lib.hid (And.intro R7 (And.intro (FrG.trans H6.out.2.1 f7) (And.intro (H6.out.2.2.1.keep f7 hxg) (And.intro (H6.out.2.2.2.1.keep f7 hyg) (H6.out.2.2.2.2.keep f7 hzg))))); have c7 := H7.out.2.2.1.cell 0; clear R7 f7)
       | (go_at_call 150; (with_reducible refine (HK7.out w7 H7.out.1 H7.out.2.1).mono ?_); rintro e w8 hh; rcases hh with ⟨⟨rfl, f8⟩, p7⟩ | ⟨⟨rfl, R8, f8⟩, p7⟩; (exact ⟨rfl, CmdWay.of_none (pCmd_none7 P0.out P1.out P2.out P3.out P4.out P5.out P6.out p7) ⟨rfl, FrG.trans H7.out.2.1 f8⟩⟩); have P7 := Lib.hid p7; clear p7; have H8 := Lib.hid (And.intro R8 (And.intro (FrG.trans H7.out.2.1 f8) (And.intro (H7.out.2.2.1.keep f8 hxg) (And.intro (H7.out.2.2.2.1.keep f8 hyg) (H7.out.2.2.2.2.keep f8 hzg))))); have c8 := H8.out.2.2.1.cell 0; have cZ8 := H8.out.2.2.2.2.cell; have fZ8 := H8.out.2.2.2.2.frozen; clear R8 f8))
    have hfr := (((((Fr.refl w8.heap.size (fun k => k = z) w8).setCell (p := ⟨z, 9, none⟩) (.inl rfl) (.int .i64 pbn)).setCell (p := ⟨z, 10, none⟩) (.inl rfl) (.int .i64 pbb)).setCell (p := ⟨z, 11, none⟩) (.inl rfl) (.int .i64 pbs)).setCell (p := ⟨z, 12, none⟩) (.inl rfl) (.int .i64 psize)).setCell (p := ⟨z, 13, none⟩) (.inl rfl) (.string etag)
    have HU := Lib.hid (upd hfr H8.out hzg nz ny hzw)
    have hZ := ((((H8.out.2.2.2.2.set_ 9 (.int .i64 pbn)).set_ 10 (.int .i64 pbb)).set_ 11 (.int .i64 pbs)).set_ 12 (.int .i64 psize)).set_ 13 (.string etag)
    go_upto_region 3 with (fail)
    refine wp_letter (fun W => Rem W lo g L8 ∧ Fr w.heap.size (fun k => k = g) w W ∧ Blk W x 187 #[.pointer (some ⟨g, 0, none⟩)] ∧ Blk W (x + 1) 81 #[.int .i64 0, .int .i64 0, .int .i64 0, .int .i64 0, .string ⟨#[]⟩, .string ⟨#[]⟩, .int .i64 0, .int .i64 0, .int .i64 0, .int .i64 0, .int .i64 0, .int .i64 0, .int .i64 0, .string ⟨#[]⟩, .int .i64 0, .slice none 0 0, .int .i64 0, .int .i64 0] ∧ Blk W z 81 #[.int .i64 kind, .int .i64 idn, .int .i64 idb, .int .i64 ids, .string bucket, .string key, .int .i64 upn, .int .i64 upb, .int .i64 ups, .int .i64 pbn, .int .i64 pbb, .int .i64 pbs, .int .i64 psize, .string etag, .int .i64 0, .slice none 0 0, .int .i64 0, .int .i64 0]) ⟨HU.out.1, HU.out.2.1, HU.out.2.2.1, HU.out.2.2.2, hZ⟩ ?_
    clear hZ hfr HU HS HT H6 H7 H8 cX0 c6 c7 c8 cZ8 fZ8
    rintro W3 hS
    have HS := Lib.hid hS
    have cX0 := hS.2.2.1.cell 0
    clear hS
    go_upto_region 4 with (first | (go_at_call 148; (with_reducible refine (HK8.out W3 HS.out.1 HS.out.2.1).mono ?_); rintro e w9 hh; rcases hh with ⟨⟨rfl, f9⟩, p8⟩ | ⟨⟨rfl, R9, f9⟩, p8⟩; (exact ⟨rfl, CmdWay.of_none (pCmd_none8 P0.out P1.out P2.out P3.out P4.out P5.out P6.out P7.out p8) ⟨rfl, FrG.trans HS.out.2.1 f9⟩⟩); have P8 := Lib.hid p8; clear p8; have H9 := Lib.hid (And.intro R9 (And.intro (FrG.trans HS.out.2.1 f9) (And.intro (HS.out.2.2.1.keep f9 hxg) (And.intro (HS.out.2.2.2.1.keep f9 hyg) (HS.out.2.2.2.2.keep f9 hzg))))); have c9 := H9.out.2.2.1.cell 0; have cZ9 := H9.out.2.2.2.2.cell; have fZ9 := H9.out.2.2.2.2.frozen; clear R9 f9) | fail)
    have hfr := (Fr.refl w9.heap.size (fun k => k = z) w9).setCell (p := ⟨z, 14, none⟩) (.inl rfl) (.int .i64 part)
    have HU := Lib.hid (upd hfr H9.out hzg nz ny hzw)
    have hZ := H9.out.2.2.2.2.set_ 14 (.int .i64 part)
    refine wp_letter (fun W => Rem W lo g L9 ∧ Fr w.heap.size (fun k => k = g) w W ∧ Blk W x 187 #[.pointer (some ⟨g, 0, none⟩)] ∧ Blk W (x + 1) 81 #[.int .i64 0, .int .i64 0, .int .i64 0, .int .i64 0, .string ⟨#[]⟩, .string ⟨#[]⟩, .int .i64 0, .int .i64 0, .int .i64 0, .int .i64 0, .int .i64 0, .int .i64 0, .int .i64 0, .string ⟨#[]⟩, .int .i64 0, .slice none 0 0, .int .i64 0, .int .i64 0] ∧ Blk W z 81 #[.int .i64 kind, .int .i64 idn, .int .i64 idb, .int .i64 ids, .string bucket, .string key, .int .i64 upn, .int .i64 upb, .int .i64 ups, .int .i64 pbn, .int .i64 pbb, .int .i64 pbs, .int .i64 psize, .string etag, .int .i64 part, .slice none 0 0, .int .i64 0, .int .i64 0]) ⟨HU.out.1, HU.out.2.1, HU.out.2.2.1, HU.out.2.2.2, hZ⟩ ?_
    clear hZ hfr HU HS H9 cX0 c9 cZ9 fZ9
    rintro W4 hS
    have HS := Lib.hid hS
    have cX0 := hS.2.2.1.cell 0
    clear hS
    go_upto_region 5 with (first | (go_at_call 148; (with_reducible refine (HK9.out W4 HS.out.1 HS.out.2.1).mono ?_); rintro e w10 hh; rcases hh with ⟨⟨rfl, f10⟩, p9⟩ | ⟨⟨rfl, R10, f10⟩, p9⟩; (exact ⟨rfl, CmdWay.of_none (pCmd_none9 P0.out P1.out P2.out P3.out P4.out P5.out P6.out P7.out P8.out p9) ⟨rfl, FrG.trans HS.out.2.1 f10⟩⟩); have P9 := Lib.hid p9; clear p9; have H10 := Lib.hid (And.intro R10 (And.intro (FrG.trans HS.out.2.1 f10) (And.intro (HS.out.2.2.1.keep f10 hxg) (And.intro (HS.out.2.2.2.1.keep f10 hyg) (HS.out.2.2.2.2.keep f10 hzg))))); have c10 := H10.out.2.2.1.cell 0; clear R10 f10) | fail)
    obtain ⟨N, hN⟩ : ∃ N, N = min n 17 := ⟨_, rfl⟩
    have HN := Lib.hid (And.intro hN (show N ≤ 17 by omega))
    have HL := Lib.hid H10.out
    clear hN H10 HS cX0 c10
    go_cut [30, 31] from 29 to 31 (fun v u wx => v = .int .i64 N ∧ u = .int .i64 0 ∧ wx = w10)
    case first =>
      by_cases hle : (n : Int) ≤ 17
      · have hnN : (n : Int) = (N : Int) := by have := HN.out; omega
        go_wp2_with (fail)
        go_meet
        exact ⟨rfl, rfl, rfl⟩
      · have hnN : (17 : Int) = (N : Int) := by have := HN.out; omega
        go_wp2_with (fail)
        go_meet
        exact ⟨rfl, rfl, rfl⟩
    case rest =>
    obtain ⟨rfl, rfl, rfl⟩ := hcut
    have hN17 : (N : Int) ≤ 17 := by have := HN.out; omega
    go_wp2_with (fail)
    go_loopw [31] (fun i wr => ∃ (k : Nat) (PA : Option Addr) (pc : Nat) (xs : List Int) (Rk : List Nat), k ≤ N ∧ i = .int .i64 k ∧ (Rem wr lo g Rk ∧ Fr w.heap.size (fun k => k = g) w wr ∧ Blk wr x 187 #[.pointer (some ⟨g, 0, none⟩)] ∧ Blk wr (x + 1) 81 #[.int .i64 0, .int .i64 0, .int .i64 0, .int .i64 0, .string ⟨#[]⟩, .string ⟨#[]⟩, .int .i64 0, .int .i64 0, .int .i64 0, .int .i64 0, .int .i64 0, .int .i64 0, .int .i64 0, .string ⟨#[]⟩, .int .i64 0, .slice none 0 0, .int .i64 0, .int .i64 0] ∧ Blk wr z 81 #[.int .i64 kind, .int .i64 idn, .int .i64 idb, .int .i64 ids, .string bucket, .string key, .int .i64 upn, .int .i64 upb, .int .i64 ups, .int .i64 pbn, .int .i64 pbb, .int .i64 pbs, .int .i64 psize, .string etag, .int .i64 part, .slice PA k pc, .int .i64 0, .int .i64 0]) ∧ OwnInts wr w.heap.size wr.heap.size (.slice PA k pc) xs ∧ xs.length = k ∧ pNums k L10 = some (xs, Rk)) (fun i _ => N - (intOf i).toNat)
    case atStart =>
      exact ⟨0, none, 0, [], L10, Nat.zero_le _, rfl, HL.out, ⟨⟨World.ownsRow_nil _ _ _ _, fun g hg => by simp [Value.ownBlock] at hg⟩, by simp⟩, rfl, rfl⟩
    case round =>
      obtain ⟨k, PA, pc, xs, Rk, hk, rfl, hst, hO, hxl, hxs⟩ := hrel
      by_cases hlt : k < N
      · obtain ⟨v0, LN, kv⟩ := HKN.out Rk
        obtain ⟨v, hv⟩ : ∃ z : Int, z = (v0 : Int) := ⟨_, rfl⟩
        rw [← hv] at kv
        have HKV := Lib.hid (fun W hR f => kv W hR (HC.out W f))
        have HS := Lib.hid hst
        have HO := Lib.hid (And.intro hO (And.intro hxl (And.intro hxs hv)))
        have hk1000 : xs.length ≤ 1000 := by have := HN.out; omega
        have HK1000 := Lib.hid hk1000
        clear hst hO hxl hxs kv hv hk1000
        go_upto_region 7 with (fail)
        have HT := Lib.hid (And.intro HS.out.1.drew (And.intro HS.out.2.1.drew (And.intro HS.out.2.2.1.drew (And.intro HS.out.2.2.2.1.drew HS.out.2.2.2.2.drew))))
        have cX := HT.out.2.2.1.cell
        have cZ := HT.out.2.2.2.2.cell
        refine wp_region_held_drew (S := fun _ => True) (by kernel_rfl) trivial (fun _ => ?_)
        refine wpAnyH_take (i := 0) (v := .pointer (some ⟨z, 15, none⟩)) rfl (by kernel_rfl) (by kernel_rfl) (by kernel_rfl) (fun _ _ _ h => h) (Or.inl ⟨by rfl, fun w' _ => ?_⟩) trivial ?_
        · go_simp
        simp only [Act.put, List.setIfInBounds_toArray, List.set_cons_zero, List.set_cons_succ]
        refine wpAnyH_ready (rs := [1, 2]) (by kernel_rfl) (by simp) ?_
        refine AllReadyH.cons rfl (fun K hK => ?_) ?_
        · go_simp
          refine Shut.out hK _ _ trivial (fun _ => ?_)
          clear hK K
          refine wpAnyH_ready (rs := [2]) (by kernel_rfl) (by simp) ?_
          refine AllReadyH.cons rfl (fun K hK => ?_) ?_
          · go_simp
            refine Shut.out hK _ _ trivial (fun _ => ?_)
            clear hK K
            refine wpAnyH_ready (rs := [3]) (by kernel_rfl) (by simp) ?_
            refine AllReadyH.cons rfl (fun K hK => ?_) ?_
            · go_simp
              refine (HKV.out _ HT.out.1 HT.out.2.1).mono ?_
              rintro e w11 hh
              rcases hh with ⟨⟨rfl, f11⟩, pb⟩ | ⟨⟨rfl, R11, f11⟩, pg⟩
              · exact ⟨rfl, CmdWay.of_none (pCmd_none10 P0.out P1.out P2.out P3.out P4.out P5.out P6.out P7.out P8.out P9.out (pNums_stop HO.out.2.2.1 pb (by have := HN.out; omega))) ⟨rfl, FrG.trans HT.out.2.1 f11⟩⟩
              have PG := Lib.hid pg
              have hO11 : OwnInts w11 w.heap.size w11.heap.size (.slice PA xs.length pc) xs := by
                rw [HO.out.2.1]
                exact OwnInts.wider (OwnInts.fr (w := wr.drew) HO.out.1 f11 (Nat.le_refl _) (fun j h1 h2 h3 => by omega)) (Nat.le_refl _) f11.size
              have H11 := Lib.hid (And.intro R11 (And.intro (FrG.trans HT.out.2.1 f11) (And.intro (HT.out.2.2.1.keep f11 hxg) (And.intro (HT.out.2.2.2.1.keep f11 hyg) (HT.out.2.2.2.2.keep f11 hzg)))))
              have HO11 := Lib.hid hO11
              clear cX cZ R11 f11 hO11 pg
              have cZ := H11.out.2.2.2.2.cell
              refine Shut.out hK _ _ trivial (fun _ => ?_)
              clear hK K
              refine wpAnyH_ready (rs := [4]) (by kernel_rfl) (by simp) ?_
              refine AllReadyH.cons rfl (fun K hK => ?_) ?_
              · go_simp
                have cZa := (H11.out.2.2.2.2.alloc (.cells #[.int .i64 v] 3)).cell
                clear cZ
                have cZ := cZa
                clear cZa
                refine Shut.out hK _ _ trivial (fun _ => ?_)
                clear hK K
                refine wpAnyH_ready (rs := [5]) (by kernel_rfl) (by simp) ?_
                refine AllReadyH.cons rfl (fun K hK => ?_) ?_
                · rw [if_pos (by rfl)]
                  refine app3 (.tmp 34) (.tmp 37) w.heap.size pc k PA xs v HO.out.2.1.symm rfl rfl HO11.out H11.out.2.1.size rfl HK1000.out ?_
                  intro A' c' W12 o12 p2 p3 p4
                  have hZ12 := p2 _ _ _ (by decide) H11.out.2.2.2.2
                  have H12 := Lib.hid (And.intro (p3 _ _ _ H11.out.1) (And.intro (p4 _ _ _ (Nat.le_refl _) H11.out.2.1) (And.intro (p2 _ _ _ (by decide) H11.out.2.2.1) (And.intro (p2 _ _ _ (by decide) H11.out.2.2.2.1) hZ12))))
                  have HO12 := Lib.hid o12
                  clear p2 p3 p4 o12 cZ
                  have cZ := hZ12.cell
                  have fZ := hZ12.frozen
                  clear hZ12
                  refine Shut.out hK _ _ trivial (fun _ => ?_)
                  clear hK K
                  refine wpAnyH_ready (rs := [6]) (by kernel_rfl) (by simp) ?_
                  refine AllReadyH.cons rfl (fun K hK => ?_) ?_
                  · go_simp
                    refine Shut.out hK _ _ trivial (fun _ => ?_)
                    clear hK K
                    refine wpAnyH_ready (rs := [7]) (by kernel_rfl) (by simp) ?_
                    refine AllReadyH.cons rfl (fun K hK => ?_) ?_
                    · have hfr := (Fr.refl W12.heap.size (fun k => k = z) W12).setCell (p := ⟨z, 15, none⟩) (.inl rfl) (.slice A' (k + 1) c')
                      have hu := upd hfr H12.out hzg nz ny hzw
                      have hz13 := H12.out.2.2.2.2.set_ 15 (.slice A' (k + 1) c')
                      have ho13 : OwnInts (W12.setCell ⟨z, 15, none⟩ (.slice A' (k + 1) c')) w.heap.size (W12.setCell ⟨z, 15, none⟩ (.slice A' (k + 1) c')).heap.size (.slice A' (k + 1) c') (xs ++ [v]) := by
                        exact ⟨⟨ownsRow_far HO12.out.1.1 H12.out.2.2.2.2 (by decide), fun j hj => by simpa using HO12.out.1.2 j hj⟩, HO12.out.2⟩
                      have H13 := Lib.hid (And.intro hu.1 (And.intro hu.2.1 (And.intro hu.2.2.1 (And.intro hu.2.2.2 (And.intro hz13 ho13)))))
                      clear hu hz13 ho13 hfr
                      go_simp
                      refine Shut.out hK _ _ trivial (fun _ => ?_)
                      clear hK K
                      refine wpAnyH_done (by kernel_rfl) ?_ _
                      go_wp2_with (fail)
                      go_roundw
                      case rel => exact ⟨k + 1, A', c', xs ++ [v], LN, by omega, by go_num, ⟨H13.out.1, H13.out.2.1, H13.out.2.2.1, H13.out.2.2.2.1, H13.out.2.2.2.2.1⟩, H13.out.2.2.2.2.2, by rw [List.length_append, HO.out.2.1]; rfl, by rw [HO.out.2.2.2]; exact pNums_snoc HO.out.2.2.1 PG.out⟩
                      case measure => simp [intOf]; omega
                    exact AllReadyH.nil
                  exact AllReadyH.nil
                exact AllReadyH.nil
              exact AllReadyH.nil
            exact AllReadyH.nil
          exact AllReadyH.nil
        refine AllReadyH.cons rfl (fun K hK => ?_) ?_
        · go_simp
          refine Shut.out hK _ _ trivial (fun _ => ?_)
          clear hK K
          refine wpAnyH_ready (rs := [1, 3]) (by kernel_rfl) (by simp) ?_
          refine AllReadyH.cons rfl (fun K hK => ?_) ?_
          · go_simp
            refine Shut.out hK _ _ trivial (fun _ => ?_)
            clear hK K
            refine wpAnyH_ready (rs := [3]) (by kernel_rfl) (by simp) ?_
            refine AllReadyH.cons rfl (fun K hK => ?_) ?_
            · go_simp
              refine (HKV.out _ HT.out.1 HT.out.2.1).mono ?_
              rintro e w11 hh
              rcases hh with ⟨⟨rfl, f11⟩, pb⟩ | ⟨⟨rfl, R11, f11⟩, pg⟩
              · exact ⟨rfl, CmdWay.of_none (pCmd_none10 P0.out P1.out P2.out P3.out P4.out P5.out P6.out P7.out P8.out P9.out (pNums_stop HO.out.2.2.1 pb (by have := HN.out; omega))) ⟨rfl, FrG.trans HT.out.2.1 f11⟩⟩
              have PG := Lib.hid pg
              have hO11 : OwnInts w11 w.heap.size w11.heap.size (.slice PA xs.length pc) xs := by
                rw [HO.out.2.1]
                exact OwnInts.wider (OwnInts.fr (w := wr.drew) HO.out.1 f11 (Nat.le_refl _) (fun j h1 h2 h3 => by omega)) (Nat.le_refl _) f11.size
              have H11 := Lib.hid (And.intro R11 (And.intro (FrG.trans HT.out.2.1 f11) (And.intro (HT.out.2.2.1.keep f11 hxg) (And.intro (HT.out.2.2.2.1.keep f11 hyg) (HT.out.2.2.2.2.keep f11 hzg)))))
              have HO11 := Lib.hid hO11
              clear cX cZ R11 f11 hO11 pg
              have cZ := H11.out.2.2.2.2.cell
              refine Shut.out hK _ _ trivial (fun _ => ?_)
              clear hK K
              refine wpAnyH_ready (rs := [4]) (by kernel_rfl) (by simp) ?_
              refine AllReadyH.cons rfl (fun K hK => ?_) ?_
              · go_simp
                have cZa := (H11.out.2.2.2.2.alloc (.cells #[.int .i64 v] 3)).cell
                clear cZ
                have cZ := cZa
                clear cZa
                refine Shut.out hK _ _ trivial (fun _ => ?_)
                clear hK K
                refine wpAnyH_ready (rs := [5]) (by kernel_rfl) (by simp) ?_
                refine AllReadyH.cons rfl (fun K hK => ?_) ?_
                · rw [if_pos (by rfl)]
                  refine app3 (.tmp 34) (.tmp 37) w.heap.size pc k PA xs v HO.out.2.1.symm rfl rfl HO11.out H11.out.2.1.size rfl HK1000.out ?_
                  intro A' c' W12 o12 p2 p3 p4
                  have hZ12 := p2 _ _ _ (by decide) H11.out.2.2.2.2
                  have H12 := Lib.hid (And.intro (p3 _ _ _ H11.out.1) (And.intro (p4 _ _ _ (Nat.le_refl _) H11.out.2.1) (And.intro (p2 _ _ _ (by decide) H11.out.2.2.1) (And.intro (p2 _ _ _ (by decide) H11.out.2.2.2.1) hZ12))))
                  have HO12 := Lib.hid o12
                  clear p2 p3 p4 o12 cZ
                  have cZ := hZ12.cell
                  have fZ := hZ12.frozen
                  clear hZ12
                  refine Shut.out hK _ _ trivial (fun _ => ?_)
                  clear hK K
                  refine wpAnyH_ready (rs := [6]) (by kernel_rfl) (by simp) ?_
                  refine AllReadyH.cons rfl (fun K hK => ?_) ?_
                  · go_simp
                    refine Shut.out hK _ _ trivial (fun _ => ?_)
                    clear hK K
                    refine wpAnyH_ready (rs := [7]) (by kernel_rfl) (by simp) ?_
                    refine AllReadyH.cons rfl (fun K hK => ?_) ?_
                    · have hfr := (Fr.refl W12.heap.size (fun k => k = z) W12).setCell (p := ⟨z, 15, none⟩) (.inl rfl) (.slice A' (k + 1) c')
                      have hu := upd hfr H12.out hzg nz ny hzw
                      have hz13 := H12.out.2.2.2.2.set_ 15 (.slice A' (k + 1) c')
                      have ho13 : OwnInts (W12.setCell ⟨z, 15, none⟩ (.slice A' (k + 1) c')) w.heap.size (W12.setCell ⟨z, 15, none⟩ (.slice A' (k + 1) c')).heap.size (.slice A' (k + 1) c') (xs ++ [v]) := by
                        exact ⟨⟨ownsRow_far HO12.out.1.1 H12.out.2.2.2.2 (by decide), fun j hj => by simpa using HO12.out.1.2 j hj⟩, HO12.out.2⟩
                      have H13 := Lib.hid (And.intro hu.1 (And.intro hu.2.1 (And.intro hu.2.2.1 (And.intro hu.2.2.2 (And.intro hz13 ho13)))))
                      clear hu hz13 ho13 hfr
                      go_simp
                      refine Shut.out hK _ _ trivial (fun _ => ?_)
                      clear hK K
                      refine wpAnyH_done (by kernel_rfl) ?_ _
                      go_wp2_with (fail)
                      go_roundw
                      case rel => exact ⟨k + 1, A', c', xs ++ [v], LN, by omega, by go_num, ⟨H13.out.1, H13.out.2.1, H13.out.2.2.1, H13.out.2.2.2.1, H13.out.2.2.2.2.1⟩, H13.out.2.2.2.2.2, by rw [List.length_append, HO.out.2.1]; rfl, by rw [HO.out.2.2.2]; exact pNums_snoc HO.out.2.2.1 PG.out⟩
                      case measure => simp [intOf]; omega
                    exact AllReadyH.nil
                  exact AllReadyH.nil
                exact AllReadyH.nil
              exact AllReadyH.nil
            exact AllReadyH.nil
          refine AllReadyH.cons rfl (fun K hK => ?_) ?_
          · go_simp
            refine (HKV.out _ HT.out.1 HT.out.2.1).mono ?_
            rintro e w11 hh
            rcases hh with ⟨⟨rfl, f11⟩, pb⟩ | ⟨⟨rfl, R11, f11⟩, pg⟩
            · exact ⟨rfl, CmdWay.of_none (pCmd_none10 P0.out P1.out P2.out P3.out P4.out P5.out P6.out P7.out P8.out P9.out (pNums_stop HO.out.2.2.1 pb (by have := HN.out; omega))) ⟨rfl, FrG.trans HT.out.2.1 f11⟩⟩
            have PG := Lib.hid pg
            have hO11 : OwnInts w11 w.heap.size w11.heap.size (.slice PA xs.length pc) xs := by
              rw [HO.out.2.1]
              exact OwnInts.wider (OwnInts.fr (w := wr.drew) HO.out.1 f11 (Nat.le_refl _) (fun j h1 h2 h3 => by omega)) (Nat.le_refl _) f11.size
            have H11 := Lib.hid (And.intro R11 (And.intro (FrG.trans HT.out.2.1 f11) (And.intro (HT.out.2.2.1.keep f11 hxg) (And.intro (HT.out.2.2.2.1.keep f11 hyg) (HT.out.2.2.2.2.keep f11 hzg)))))
            have HO11 := Lib.hid hO11
            clear cX cZ R11 f11 hO11 pg
            have cZ := H11.out.2.2.2.2.cell
            refine Shut.out hK _ _ trivial (fun _ => ?_)
            clear hK K
            refine wpAnyH_ready (rs := [1, 4]) (by kernel_rfl) (by simp) ?_
            refine AllReadyH.cons rfl (fun K hK => ?_) ?_
            · go_simp
              refine Shut.out hK _ _ trivial (fun _ => ?_)
              clear hK K
              refine wpAnyH_ready (rs := [4]) (by kernel_rfl) (by simp) ?_
              refine AllReadyH.cons rfl (fun K hK => ?_) ?_
              · go_simp
                have cZa := (H11.out.2.2.2.2.alloc (.cells #[.int .i64 v] 3)).cell
                clear cZ
                have cZ := cZa
                clear cZa
                refine Shut.out hK _ _ trivial (fun _ => ?_)
                clear hK K
                refine wpAnyH_ready (rs := [5]) (by kernel_rfl) (by simp) ?_
                refine AllReadyH.cons rfl (fun K hK => ?_) ?_
                · rw [if_pos (by rfl)]
                  refine app3 (.tmp 34) (.tmp 37) w.heap.size pc k PA xs v HO.out.2.1.symm rfl rfl HO11.out H11.out.2.1.size rfl HK1000.out ?_
                  intro A' c' W12 o12 p2 p3 p4
                  have hZ12 := p2 _ _ _ (by decide) H11.out.2.2.2.2
                  have H12 := Lib.hid (And.intro (p3 _ _ _ H11.out.1) (And.intro (p4 _ _ _ (Nat.le_refl _) H11.out.2.1) (And.intro (p2 _ _ _ (by decide) H11.out.2.2.1) (And.intro (p2 _ _ _ (by decide) H11.out.2.2.2.1) hZ12))))
                  have HO12 := Lib.hid o12
                  clear p2 p3 p4 o12 cZ
                  have cZ := hZ12.cell
                  have fZ := hZ12.frozen
                  clear hZ12
                  refine Shut.out hK _ _ trivial (fun _ => ?_)
                  clear hK K
                  refine wpAnyH_ready (rs := [6]) (by kernel_rfl) (by simp) ?_
                  refine AllReadyH.cons rfl (fun K hK => ?_) ?_
                  · go_simp
                    refine Shut.out hK _ _ trivial (fun _ => ?_)
                    clear hK K
                    refine wpAnyH_ready (rs := [7]) (by kernel_rfl) (by simp) ?_
                    refine AllReadyH.cons rfl (fun K hK => ?_) ?_
                    · have hfr := (Fr.refl W12.heap.size (fun k => k = z) W12).setCell (p := ⟨z, 15, none⟩) (.inl rfl) (.slice A' (k + 1) c')
                      have hu := upd hfr H12.out hzg nz ny hzw
                      have hz13 := H12.out.2.2.2.2.set_ 15 (.slice A' (k + 1) c')
                      have ho13 : OwnInts (W12.setCell ⟨z, 15, none⟩ (.slice A' (k + 1) c')) w.heap.size (W12.setCell ⟨z, 15, none⟩ (.slice A' (k + 1) c')).heap.size (.slice A' (k + 1) c') (xs ++ [v]) := by
                        exact ⟨⟨ownsRow_far HO12.out.1.1 H12.out.2.2.2.2 (by decide), fun j hj => by simpa using HO12.out.1.2 j hj⟩, HO12.out.2⟩
                      have H13 := Lib.hid (And.intro hu.1 (And.intro hu.2.1 (And.intro hu.2.2.1 (And.intro hu.2.2.2 (And.intro hz13 ho13)))))
                      clear hu hz13 ho13 hfr
                      go_simp
                      refine Shut.out hK _ _ trivial (fun _ => ?_)
                      clear hK K
                      refine wpAnyH_done (by kernel_rfl) ?_ _
                      go_wp2_with (fail)
                      go_roundw
                      case rel => exact ⟨k + 1, A', c', xs ++ [v], LN, by omega, by go_num, ⟨H13.out.1, H13.out.2.1, H13.out.2.2.1, H13.out.2.2.2.1, H13.out.2.2.2.2.1⟩, H13.out.2.2.2.2.2, by rw [List.length_append, HO.out.2.1]; rfl, by rw [HO.out.2.2.2]; exact pNums_snoc HO.out.2.2.1 PG.out⟩
                      case measure => simp [intOf]; omega
                    exact AllReadyH.nil
                  exact AllReadyH.nil
                exact AllReadyH.nil
              exact AllReadyH.nil
            refine AllReadyH.cons rfl (fun K hK => ?_) ?_
            · go_simp
              have cZa := (H11.out.2.2.2.2.alloc (.cells #[.int .i64 v] 3)).cell
              clear cZ
              have cZ := cZa
              clear cZa
              refine Shut.out hK _ _ trivial (fun _ => ?_)
              clear hK K
              refine wpAnyH_ready (rs := [1]) (by kernel_rfl) (by simp) ?_
              refine AllReadyH.cons rfl (fun K hK => ?_) ?_
              · go_simp
                refine Shut.out hK _ _ trivial (fun _ => ?_)
                clear hK K
                refine wpAnyH_ready (rs := [5]) (by kernel_rfl) (by simp) ?_
                refine AllReadyH.cons rfl (fun K hK => ?_) ?_
                · rw [if_pos (by rfl)]
                  refine app3 (.tmp 34) (.tmp 37) w.heap.size pc k PA xs v HO.out.2.1.symm rfl rfl HO11.out H11.out.2.1.size rfl HK1000.out ?_
                  intro A' c' W12 o12 p2 p3 p4
                  have hZ12 := p2 _ _ _ (by decide) H11.out.2.2.2.2
                  have H12 := Lib.hid (And.intro (p3 _ _ _ H11.out.1) (And.intro (p4 _ _ _ (Nat.le_refl _) H11.out.2.1) (And.intro (p2 _ _ _ (by decide) H11.out.2.2.1) (And.intro (p2 _ _ _ (by decide) H11.out.2.2.2.1) hZ12))))
                  have HO12 := Lib.hid o12
                  clear p2 p3 p4 o12 cZ
                  have cZ := hZ12.cell
                  have fZ := hZ12.frozen
                  clear hZ12
                  refine Shut.out hK _ _ trivial (fun _ => ?_)
                  clear hK K
                  refine wpAnyH_ready (rs := [6]) (by kernel_rfl) (by simp) ?_
                  refine AllReadyH.cons rfl (fun K hK => ?_) ?_
                  · go_simp
                    refine Shut.out hK _ _ trivial (fun _ => ?_)
                    clear hK K
                    refine wpAnyH_ready (rs := [7]) (by kernel_rfl) (by simp) ?_
                    refine AllReadyH.cons rfl (fun K hK => ?_) ?_
                    · have hfr := (Fr.refl W12.heap.size (fun k => k = z) W12).setCell (p := ⟨z, 15, none⟩) (.inl rfl) (.slice A' (k + 1) c')
                      have hu := upd hfr H12.out hzg nz ny hzw
                      have hz13 := H12.out.2.2.2.2.set_ 15 (.slice A' (k + 1) c')
                      have ho13 : OwnInts (W12.setCell ⟨z, 15, none⟩ (.slice A' (k + 1) c')) w.heap.size (W12.setCell ⟨z, 15, none⟩ (.slice A' (k + 1) c')).heap.size (.slice A' (k + 1) c') (xs ++ [v]) := by
                        exact ⟨⟨ownsRow_far HO12.out.1.1 H12.out.2.2.2.2 (by decide), fun j hj => by simpa using HO12.out.1.2 j hj⟩, HO12.out.2⟩
                      have H13 := Lib.hid (And.intro hu.1 (And.intro hu.2.1 (And.intro hu.2.2.1 (And.intro hu.2.2.2 (And.intro hz13 ho13)))))
                      clear hu hz13 ho13 hfr
                      go_simp
                      refine Shut.out hK _ _ trivial (fun _ => ?_)
                      clear hK K
                      refine wpAnyH_done (by kernel_rfl) ?_ _
                      go_wp2_with (fail)
                      go_roundw
                      case rel => exact ⟨k + 1, A', c', xs ++ [v], LN, by omega, by go_num, ⟨H13.out.1, H13.out.2.1, H13.out.2.2.1, H13.out.2.2.2.1, H13.out.2.2.2.2.1⟩, H13.out.2.2.2.2.2, by rw [List.length_append, HO.out.2.1]; rfl, by rw [HO.out.2.2.2]; exact pNums_snoc HO.out.2.2.1 PG.out⟩
                      case measure => simp [intOf]; omega
                    exact AllReadyH.nil
                  exact AllReadyH.nil
                exact AllReadyH.nil
              exact AllReadyH.nil
            exact AllReadyH.nil
          exact AllReadyH.nil
        exact AllReadyH.nil
      · have hkn : k = min n 17 := by have := HN.out; omega
        have hkN : k = N := by omega
        have h10 : pNums (min n 17) L10 = some (parts, L11) ∧ xs = parts ∧ Rk = L11 := by
          rw [hkn] at hxs
          rcases HPS.out with h | h
          · rw [hxs] at h
            cases h
          · have h' := h
            rw [hxs] at h
            injection h with h
            injection h with h1 h2
            exact ⟨h', h1, h2⟩
        have P10 := Lib.hid h10.1
        rw [h10.2.2] at hst
        rw [h10.2.1] at hO
        have HS := Lib.hid hst
        have HO := Lib.hid hO
        have HKN1 := Lib.hid hkN
        clear hst hO h10 hkn hxs hxl hkN
        go_upto_region 9 with (fail)
        have HT := Lib.hid (And.intro HS.out.1.drew (And.intro HS.out.2.1.drew (And.intro HS.out.2.2.1.drew (And.intro HS.out.2.2.2.1.drew HS.out.2.2.2.2.drew))))
        have cX0 := HT.out.2.2.1.cell 0
        go_region_held2 (fun w' => w'.cell? ⟨x, 0, none⟩ = some (.pointer (some ⟨g, 0, none⟩))) (go_keep)
          (first
           | (go_at_call 148; (with_reducible refine (HK11.out wr.drew HT.out.1 HT.out.2.1).mono ?_); rintro e w13 hh; rcases hh with ⟨⟨rfl, f13⟩, p11⟩ | ⟨⟨rfl, R13, f13⟩, p11⟩; (exact ⟨rfl, CmdWay.of_none (pCmd_none11 P0.out P1.out P2.out P3.out P4.out P5.out P6.out P7.out P8.out P9.out P10.out p11) ⟨rfl, FrG.trans HT.out.2.1 f13⟩⟩); have P11 := Lib.hid p11; clear p11; have H13 := Lib.hid (And.intro R13 (And.intro (FrG.trans HT.out.2.1 f13) (And.intro (HT.out.2.2.1.keep f13 hxg) (And.intro (HT.out.2.2.2.1.keep f13 hyg) (HT.out.2.2.2.2.keep f13 hzg))))); have c13 := H13.out.2.2.1.cell 0; have G13 := Lib.hid f13; clear R13 f13)
           | (go_at_call 148; (with_reducible refine (HK12.out w13 H13.out.1 H13.out.2.1).mono ?_); rintro e w14 hh; rcases hh with ⟨⟨rfl, f14⟩, p12⟩ | ⟨⟨rfl, R14, f14⟩, p12⟩; (exact ⟨rfl, CmdWay.of_none (pCmd_none12 P0.out P1.out P2.out P3.out P4.out P5.out P6.out P7.out P8.out P9.out P10.out P11.out p12) ⟨rfl, FrG.trans H13.out.2.1 f14⟩⟩); have P12 := Lib.hid p12; clear p12; have H14 := Lib.hid (And.intro R14 (And.intro (FrG.trans H13.out.2.1 f14) (And.intro (H13.out.2.2.1.keep f14 hxg) (And.intro (H13.out.2.2.2.1.keep f14 hyg) (H13.out.2.2.2.2.keep f14 hzg))))); have c14 := H14.out.2.2.1.cell 0; have G14 := Lib.hid f14; have cZ14 := H14.out.2.2.2.2.cell; have fZ14 := H14.out.2.2.2.2.frozen; clear R14 f14))
        have hfr := ((Fr.refl w14.heap.size (fun k => k = z) w14).setCell (p := ⟨z, 16, none⟩) (.inl rfl) (.int .i64 time)).setCell (p := ⟨z, 17, none⟩) (.inl rfl) (.int .i64 days)
        have hu := upd hfr H14.out hzg nz ny hzw
        have hZ := (H14.out.2.2.2.2.set_ 16 (.int .i64 time)).set_ 17 (.int .i64 days)
        have ho14 : OwnInts w14 w.heap.size w14.heap.size (.slice PA k pc) parts :=
          OwnInts.wider (OwnInts.fr (OwnInts.wider (OwnInts.fr (w := wr.drew) HO.out G13.out (Nat.le_refl _) (fun j h1 h2 h3 => by omega)) (Nat.le_refl _) G13.out.size) G14.out (Nat.le_refl _) (fun j h1 h2 h3 => by omega)) (Nat.le_refl _) G14.out.size
        have hoo := ownsRow_far (i := 17) (u := .int .i64 days) (ownsRow_far (i := 16) (u := .int .i64 time) ho14.1.1 H14.out.2.2.2.2 (by decide)) (H14.out.2.2.2.2.set_ 16 (.int .i64 time)) (by decide)
        have ho : OwnInts ((w14.setCell ⟨z, 16, none⟩ (.int .i64 time)).setCell ⟨z, 17, none⟩ (.int .i64 days)) w.heap.size ((w14.setCell ⟨z, 16, none⟩ (.int .i64 time)).setCell ⟨z, 17, none⟩ (.int .i64 days)).heap.size (.slice PA k pc) parts := ⟨⟨hoo, fun j hj => by simpa using ho14.1.2 j hj⟩, ho14.2⟩
        go_upto_region 10 with (fail)
        refine wp_letter (fun W => (Rem W lo g R ∧ Fr w.heap.size (fun k => k = g) w W ∧ Blk W x 187 #[.pointer (some ⟨g, 0, none⟩)] ∧ Blk W (x + 1) 81 #[.int .i64 0, .int .i64 0, .int .i64 0, .int .i64 0, .string ⟨#[]⟩, .string ⟨#[]⟩, .int .i64 0, .int .i64 0, .int .i64 0, .int .i64 0, .int .i64 0, .int .i64 0, .int .i64 0, .string ⟨#[]⟩, .int .i64 0, .slice none 0 0, .int .i64 0, .int .i64 0] ∧ Blk W z 81 (Cmd.cells { kind := kind, idn := idn, idb := idb, ids := ids, bucket := bucket, key := key, upn := upn, upb := upb, ups := ups, pbn := pbn, pbb := pbb, pbs := pbs, psize := psize, etag := etag, part := part, parts := parts, time := time, days := days } (.slice PA k pc)).toArray) ∧ OwnInts W w.heap.size W.heap.size (.slice PA k pc) parts) ⟨⟨hu.1, hu.2.1, hu.2.2.1, hu.2.2.2, hZ⟩, ho⟩ ?_
        clear hZ hfr hu ho hoo ho14 HS HO HT cX0 c13 c14 cZ14 fZ14 H13 H14 G13 G14
        rintro W5 ⟨hst, hO⟩
        have hrZ := hst.2.2.2.2.range
        have HS := Lib.hid hst
        have HO := Lib.hid hO
        obtain ⟨CS, hCS⟩ : ∃ cs, cs = Cmd.cells { kind := kind, idn := idn, idb := idb, ids := ids, bucket := bucket, key := key, upn := upn, upb := upb, ups := ups, pbn := pbn, pbb := pbb, pbs := pbs, psize := psize, etag := etag, part := part, parts := parts, time := time, days := days } (.slice PA k pc) := ⟨_, rfl⟩
        rw [← hCS] at hrZ
        have hc18 : (Tryd.prog.info? 81).map (·.size) = some CS.length := by rw [hCS]; exact cmd_info
        have hc18' : (Tryd.prog.info? 81).map (·.size) = some CS.toArray.size := by rw [hCS]; exact cmd_info
        have hold : (#[.int .i64 0, .int .i64 0, .int .i64 0, .int .i64 0, .string ⟨#[]⟩, .string ⟨#[]⟩, .int .i64 0, .int .i64 0, .int .i64 0, .int .i64 0, .int .i64 0, .int .i64 0, .int .i64 0, .string ⟨#[]⟩, .int .i64 0, .slice none 0 0, .int .i64 0, .int .i64 0] : Array Value).size = CS.toArray.size := by rw [hCS]; rfl
        have hone : CS.toArray.all (·.oneCell') = true := by rw [hCS]; exact cells_oneCell _ _ _ _
        have HCS := Lib.hid hCS
        have HKN1 := Lib.hid hrZ
        clear hst hO hCS hrZ
        go_wp2_with (first
          | ((with_reducible refine law_load 81 (.tmp 3) z 0 CS ?_ HKN1.out Tryd.underlying81 ?_ hc18 ?_); rfl; rfl)
          | ((with_reducible refine law_store_row 81 (.tmp 2) (.tmp 47) (x + 1) 81 #[.int .i64 0, .int .i64 0, .int .i64 0, .int .i64 0, .string ⟨#[]⟩, .string ⟨#[]⟩, .int .i64 0, .int .i64 0, .int .i64 0, .int .i64 0, .int .i64 0, .int .i64 0, .int .i64 0, .string ⟨#[]⟩, .int .i64 0, .slice none 0 0, .int .i64 0, .int .i64 0] CS.toArray HS.out.2.2.2.1 ?_ ?_ hc18' hold hone ?_); rfl; rfl; intro W6 hY6 hF6 hs6; have HY6 := Lib.hid (And.intro hY6 (And.intro hF6 hs6)); clear hY6 hF6 hs6)
          | fail)
        have hld := run_loadVar_mid (P := Tryd.prog) W6 (x + 1) 0 81 CS _ HY6.out.1.range Tryd.underlying81 rfl hc18
        have hend : GotCmd lo g { kind := kind, idn := idn, idb := idb, ids := ids, bucket := bucket, key := key, upn := upn, upb := upb, ups := ups, pbn := pbn, pbb := pbb, pbs := pbs, psize := psize, etag := etag, part := part, parts := parts, time := time, days := days } R w (.returned (.agg CS.toArray)) W6 := by
          rw [HCS.out]
          refine ⟨.slice PA k pc, rfl, ?_, HS.out.1.fr1 HY6.out.2.1 HS.out.2.2.2.1 (by decide) hyg, HS.out.2.1.trans (HY6.out.2.1.mono HS.out.2.1.size (fun j hj he => by omega))⟩
          exact OwnInts.wider (HO.out.frz HY6.out.2.1 HS.out.2.2.2.1 (by decide)) (Nat.le_refl _) (Nat.le_of_eq HY6.out.2.2.symm)
        have HEND := Lib.hid hend
        clear hend
        simp [go_sem] at hld
        exact bodyPost_ret (v := .agg CS.toArray) (by simp [results, Tryd.results108, go_sem, hld]) rfl (CmdWay.of_some (HE.out P0.out P1.out P2.out P3.out P4.out P5.out P6.out P7.out P8.out P9.out P10.out P11.out P12.out) HEND.out)
end Go.Proofs.YtnlncfjibbdimaaDoor
