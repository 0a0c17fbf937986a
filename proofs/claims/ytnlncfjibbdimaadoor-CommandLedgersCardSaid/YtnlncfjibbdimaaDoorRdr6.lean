/-
  The walk of the command reader's command where a command is there.
-/
import Derived.Test.YtnlncfjibbdimaaDoorRdrB
namespace Go.Proofs.YtnlncfjibbdimaaDoor
open Go.RowKit
set_option linter.unusedSimpArgs false
set_option linter.unusedVariables false

/-- A command was read, and R is left; pv: the slice of its parts, new. -/
def GotCmd (lo g : Nat) (c : Cmd) (R : List Nat) (w : World) (e : Ending) (w' : World) : Prop :=
  ∃ pv, e = .returned (.agg (c.cells pv).toArray) ∧ OwnInts w' w.heap.size w'.heap.size pv c.parts ∧ Rem w' lo g R ∧ Fr w.heap.size (fun k => k = g) w w'

theorem build81r (k a b c d e f : Int) (s t : ByteArray) (w : World) : (Instr.build 81 #[(0, .int .i64 k), (1, .agg #[.int .i64 a, .int .i64 b, .int .i64 c]), (2, .string s), (3, .string t), (4, .agg #[.int .i64 d, .int .i64 e, .int .i64 f])]).run Tryd.prog w =
    .ok (.agg #[.int .i64 k, .int .i64 a, .int .i64 b, .int .i64 c, .string s, .string t, .int .i64 d, .int .i64 e, .int .i64 f, .int .i64 0, .int .i64 0, .int .i64 0, .int .i64 0, .string ⟨#[]⟩, .int .i64 0, .slice none 0 0, .int .i64 0, .int .i64 0]) w := run_build w 81 _ _ (by kernel_rfl)

/-- A call's frame behind what the region made ahead of it. -/
theorem frtail {w a b c : World} {g : Nat} (hb : Below a.heap.size a b) (h : Fr w.heap.size (fun k => k = g) w a) (k : Fr b.heap.size (fun k => k = g) b c) : Fr w.heap.size (fun k => k = g) w c :=
  FrG.trans (FrG.trans h (Fr.of_below hb _)) k
theorem frsize {a b c : World} {g : Nat} (hb : Below a.heap.size a b) (k : Fr b.heap.size (fun k => k = g) b c) : a.heap.size ≤ c.heap.size := Nat.le_trans hb.size k.size

/-- A whole row is stored: the two ways in which the walk asks it. -/
theorem stC81 {W : World} {z : Nat} {old : Array Value} (cells : Array Value) (h : Blk W z 81 old) (ho : old.size = cells.size) (h1 : cells.all (·.oneCell') = true) : (storeCells ⟨z, 0, none⟩ cells.toList 0).run Tryd.prog W = .ok () (W.setRow z cells) := by
  have := run_storeCells_from (P := Tryd.prog) z 81 cells.toList 0 old W h (by simp; omega) (fun v hv => (Array.all_eq_true_iff_forall_mem.1 h1) v (by simpa using hv))
  simpa using this
theorem stA81 {W : World} {z : Nat} {old : Array Value} (cells : Array Value) (h : Blk W z 81 old) (ho : old.size = cells.size) (h1 : cells.all (·.oneCell') = true) (hs : cells.size = 18) : (Instr.storeAt 81 (.pointer (some ⟨z, 0, none⟩)) (.agg cells)).run Tryd.prog W = .ok () (W.setRow z cells) := by
  simp only [Instr.storeAt, Instr.sureAddr, Sem.run_bind, Sem.run_pure, Result.andThen]
  exact run_storeVar_row W z 81 81 old cells h (by rw [hs]; exact cmd_info) ho h1
theorem Blk.row {W : World} {z : Nat} {t : TypeId} {old : Array Value} (h : Blk W z t old) (cells : Array Value) : Blk (W.setRow z cells) z t cells := setRow_heap W z old cells t (0, 0) h
theorem Blk.rowFar {W : World} {y z : Nat} {t : TypeId} {cs : Array Value} (h : Blk W y t cs) (hne : y ≠ z) (cells : Array Value) : Blk (W.setRow z cells) y t cs := by
  unfold Blk at h ⊢
  simp only [World.setRow, Array.getElem?_modify]
  rw [if_neg (Ne.symm hne)]
  exact h
theorem setRow_fr {W : World} {B z : Nat} {S : Nat → Prop} (hz : S z ∨ B ≤ z) (cells : Array Value) : Fr B S W (W.setRow z cells) := by
  refine ⟨rfl, rfl, rfl, by simp [World.setRow], fun k hk hs => ?_⟩
  simp only [World.setRow, Array.getElem?_modify]
  have : ¬ z = k := by
    rintro rfl
    rcases hz with h | h
    · exact hs h
    · omega
  rw [if_neg this]
theorem Rem.row {W : World} {lo g z : Nat} {R : List Nat} {t : TypeId} {old : Array Value} (h : Rem W lo g R) (hB : Blk W z t old) (ht : t ≠ 5) (hz : z ≠ g) (cells : Array Value) : Rem (W.setRow z cells) lo g R := by
  obtain ⟨bs, q, ⟨h1, h2, h3, h4, A, c, hb, ho⟩, h6⟩ := h
  refine ⟨bs, q, ⟨h1, h2, h3, h4, A, c, hb.rowFar (Ne.symm hz) _, ?_⟩, h6⟩
  refine ⟨ho.1, ?_⟩
  rcases ho.2 with h7 | ⟨k, cap, cur, he, hb', hh, hr⟩
  · exact .inl h7
  · have hzk : k ≠ z := fun e => by
      subst e
      unfold Blk at hB
      rw [hB] at hh
      injection hh with hh
      injection hh with _ hh
      exact ht hh
    exact .inr ⟨k, cap, cur, he, hb', Blk.rowFar (t := 5) (cs := cur) hh hzk cells, hr⟩

theorem store81 {w5 : World} {z : Nat} {old : Array Value} (cells : Array Value) (h : Blk w5 z 81 old) (ho : old.size = cells.size) (h1 : cells.all (·.oneCell') = true) :
    ∃ W6, (storeCells ⟨z, 0, none⟩ cells.toList 0).run Tryd.prog w5 = .ok () W6 ∧ Blk W6 z 81 cells ∧ (∀ (y : Nat) (t : TypeId) (cs : Array Value), Blk w5 y t cs → y ≠ z → Blk W6 y t cs) ∧
      (∀ (lo g : Nat) (R : List Nat), Rem w5 lo g R → z ≠ g → Rem W6 lo g R) ∧ (∀ (B : Nat) (S : Nat → Prop), (S z ∨ B ≤ z) → Fr B S w5 W6) :=
  ⟨_, stC81 cells h ho h1, h.row cells, fun _ _ _ hy hne => hy.rowFar hne cells, fun _ _ _ hR hz => hR.row h (by decide) hz cells, fun _ _ hz => setRow_fr hz cells⟩
theorem Rem.fr1 {w w' : World} {lo g z : Nat} {R : List Nat} {t : TypeId} {cs : Array Value} (h : Rem w lo g R) (f : Fr w.heap.size (fun k => k = z) w w') (hB : Blk w z t cs) (ht : t ≠ 5) (hz : z ≠ g) : Rem w' lo g R := by
  obtain ⟨bs, q, ⟨h1, h2, h3, h4, A, c, hb, ho⟩, h6⟩ := h
  refine ⟨bs, q, ⟨h1, h2, h3, h4, A, c, hb.fr f hb.lt (Ne.symm hz), ?_⟩, h6⟩
  refine ⟨ho.1, ?_⟩
  rcases ho.2 with h7 | ⟨k, cap, cur, he, hb', hh, hr⟩
  · exact .inl h7
  · have hzk : k ≠ z := fun e => by
      subst e
      unfold Blk at hB
      rw [hB] at hh
      injection hh with hh
      injection hh with _ hh
      exact ht hh
    exact .inr ⟨k, cap, cur, he, hb', Blk.fr (t := 5) (cs := cur) hh f (Blk.lt (t := 5) (cs := cur) hh) hzk, hr⟩
/-- Block z is written, block by block all else stays. -/
theorem upd {w w8 w' : World} {lo g x z : Nat} {R : List Nat} {tx ty : TypeId} {cx cy cz : Array Value} (f : Fr w8.heap.size (fun k => k = z) w8 w')
    (h : Rem w8 lo g R ∧ Fr w.heap.size (fun k => k = g) w w8 ∧ Blk w8 x tx cx ∧ Blk w8 (x + 1) ty cy ∧ Blk w8 z 81 cz) (hz : z ≠ g) (hx : x ≠ z) (hy : x + 1 ≠ z) (hw : w.heap.size ≤ z) :
    Rem w' lo g R ∧ Fr w.heap.size (fun k => k = g) w w' ∧ Blk w' x tx cx ∧ Blk w' (x + 1) ty cy :=
  ⟨h.1.fr1 f h.2.2.2.2 (by decide) hz, h.2.1.trans (f.mono h.2.1.size (fun k hk he => by omega)), h.2.2.1.fr f h.2.2.1.lt hx, h.2.2.2.1.fr f h.2.2.2.1.lt hy⟩
theorem OwnInts.frz {w w' : World} {lo hi z : Nat} {v : Value} {xs : List Int} {t : TypeId} {cs : Array Value} (h : OwnInts w lo hi v xs) (f : Fr w.heap.size (fun k => k = z) w w') (hB : Blk w z t cs) (ht : t ≠ 3) : OwnInts w' lo hi v xs := by
  obtain ⟨⟨h1, h2⟩, h3⟩ := h
  refine ⟨⟨⟨h1.1, ?_⟩, h2⟩, h3⟩
  rcases h1.2 with h7 | ⟨k, cap, cur, he, hb', hh, hr⟩
  · exact .inl h7
  · have hk : Blk w k 3 cur := hh
    have hzk : k ≠ z := fun e => by
      subst e
      unfold Blk at hB hk
      rw [hB] at hk
      injection hk with hk
      injection hk with _ hk
      exact ht hk
    exact .inr ⟨k, cap, cur, he, hb', hk.fr f hk.lt hzk, hr⟩
theorem ne1 {x z : Nat} (h : x + 2 ≤ z) : x + 1 ≠ z := by omega
theorem zlow {x n z : Nat} (hx : x = n) (h : x + 2 ≤ z) : n ≤ z := by omega
theorem ne2 {x z : Nat} (h : x + 2 ≤ z) : x ≠ z := by omega

set_option maxRecDepth 100000 in
set_option maxHeartbeats 6400000 in
theorem rcmd_good (c : Cmd) (hc : Lens c) (hpp : ∀ x ∈ c.parts, inG x) (w : World) (lo g : Nat) (R : List Nat) (h : Rem w lo g (putN c ++ R)) : Calls Tryd.prog 108 #[.agg #[.pointer (some ⟨g, 0, none⟩)]] w (GotCmd lo g c R w) := by
  obtain ⟨kind, idn, idb, ids, bucket, key, upn, upb, ups, pbn, pbb, pbs, psize, etag, part, parts, time, days⟩ := c
  obtain ⟨hl, hr⟩ := hc
  simp only at hl hr hpp
  obtain ⟨L12, e12⟩ : ∃ l, l = encI days ++ R := ⟨_, rfl⟩
  obtain ⟨L11, e11⟩ : ∃ l, l = encI time ++ L12 := ⟨_, rfl⟩
  obtain ⟨L10, e10⟩ : ∃ l, l = parts.flatMap encI ++ L11 := ⟨_, rfl⟩
  obtain ⟨L9, e9⟩ : ∃ l, l = encI (parts.length : Int) ++ L10 := ⟨_, rfl⟩
  obtain ⟨L8, e8⟩ : ∃ l, l = encI part ++ L9 := ⟨_, rfl⟩
  obtain ⟨L7, e7⟩ : ∃ l, l = encS etag ++ L8 := ⟨_, rfl⟩
  obtain ⟨L6, e6⟩ : ∃ l, l = encI psize ++ L7 := ⟨_, rfl⟩
  obtain ⟨L5, e5⟩ : ∃ l, l = encI pbn ++ encI pbb ++ encI pbs ++ L6 := ⟨_, rfl⟩
  obtain ⟨L4, e4⟩ : ∃ l, l = encI upn ++ encI upb ++ encI ups ++ L5 := ⟨_, rfl⟩
  obtain ⟨L3, e3⟩ : ∃ l, l = encS key ++ L4 := ⟨_, rfl⟩
  obtain ⟨L2, e2⟩ : ∃ l, l = encS bucket ++ L3 := ⟨_, rfl⟩
  obtain ⟨L1, e1⟩ : ∃ l, l = encI idn ++ encI idb ++ encI ids ++ L2 := ⟨_, rfl⟩
  obtain ⟨L0, e0⟩ : ∃ l, l = encI kind ++ L1 := ⟨_, rfl⟩
  have hL0 : Rem w lo g L0 := by
    have : L0 = putN { kind := kind, idn := idn, idb := idb, ids := ids, bucket := bucket, key := key, upn := upn, upb := upb, ups := ups, pbn := pbn, pbb := pbb, pbs := pbs, psize := psize, etag := etag, part := part, parts := parts, time := time, days := days } ++ R := by
      rw [e0, e1, e2, e3, e4, e5, e6, e7, e8, e9, e10, e11, e12]
      simp [putN, putHead, List.append_assoc]
    rw [this]
    exact h
  have K0 : ∀ W, Rem W lo g L0 → Calls Tryd.prog 148 #[.agg #[.pointer (some ⟨g, 0, none⟩)]] W (Got lo g (.int .i64 kind) L1 W) := fun W h => by
    rw [e0] at h
    exact rd_num h hr.1
  have HK0 := Lib.hid K0
  have K1 : ∀ W, Rem W lo g L1 → Calls Tryd.prog 149 #[.agg #[.pointer (some ⟨g, 0, none⟩)]] W (Got lo g (.agg #[.int .i64 idn, .int .i64 idb, .int .i64 ids]) L2 W) := fun W h => by
    rw [e1] at h
    exact rd_id h hr.2.1 hr.2.2.1 hr.2.2.2.1
  have HK1 := Lib.hid K1
  have K2 : ∀ W, Rem W lo g L2 → Calls Tryd.prog 150 #[.agg #[.pointer (some ⟨g, 0, none⟩)]] W (Got lo g (.string bucket) L3 W) := fun W h => by
    rw [e2] at h
    exact rd_text h (by omega)
  have HK2 := Lib.hid K2
  have K3 : ∀ W, Rem W lo g L3 → Calls Tryd.prog 150 #[.agg #[.pointer (some ⟨g, 0, none⟩)]] W (Got lo g (.string key) L4 W) := fun W h => by
    rw [e3] at h
    exact rd_text h (by omega)
  have HK3 := Lib.hid K3
  have K4 : ∀ W, Rem W lo g L4 → Calls Tryd.prog 149 #[.agg #[.pointer (some ⟨g, 0, none⟩)]] W (Got lo g (.agg #[.int .i64 upn, .int .i64 upb, .int .i64 ups]) L5 W) := fun W h => by
    rw [e4] at h
    exact rd_id h hr.2.2.2.2.1 hr.2.2.2.2.2.1 hr.2.2.2.2.2.2.1
  have HK4 := Lib.hid K4
  have K5 : ∀ W, Rem W lo g L5 → Calls Tryd.prog 149 #[.agg #[.pointer (some ⟨g, 0, none⟩)]] W (Got lo g (.agg #[.int .i64 pbn, .int .i64 pbb, .int .i64 pbs]) L6 W) := fun W h => by
    rw [e5] at h
    exact rd_id h hr.2.2.2.2.2.2.2.1 hr.2.2.2.2.2.2.2.2.1 hr.2.2.2.2.2.2.2.2.2.1
  have HK5 := Lib.hid K5
  have K6 : ∀ W, Rem W lo g L6 → Calls Tryd.prog 148 #[.agg #[.pointer (some ⟨g, 0, none⟩)]] W (Got lo g (.int .i64 psize) L7 W) := fun W h => by
    rw [e6] at h
    exact rd_num h hr.2.2.2.2.2.2.2.2.2.2.1
  have HK6 := Lib.hid K6
  have K7 : ∀ W, Rem W lo g L7 → Calls Tryd.prog 150 #[.agg #[.pointer (some ⟨g, 0, none⟩)]] W (Got lo g (.string etag) L8 W) := fun W h => by
    rw [e7] at h
    exact rd_text h (by omega)
  have HK7 := Lib.hid K7
  have K8 : ∀ W, Rem W lo g L8 → Calls Tryd.prog 148 #[.agg #[.pointer (some ⟨g, 0, none⟩)]] W (Got lo g (.int .i64 part) L9 W) := fun W h => by
    rw [e8] at h
    exact rd_num h hr.2.2.2.2.2.2.2.2.2.2.2.1
  have HK8 := Lib.hid K8
  have K9 : ∀ W, Rem W lo g L9 → Calls Tryd.prog 148 #[.agg #[.pointer (some ⟨g, 0, none⟩)]] W (Got lo g (.int .i64 (parts.length : Int)) L10 W) := fun W h => by
    rw [e9] at h
    exact rd_num h (by unfold inG; omega)
  have HK9 := Lib.hid K9
  have HK11 := Lib.hid (show ∀ W, Rem W lo g L11 → Calls Tryd.prog 148 #[.agg #[.pointer (some ⟨g, 0, none⟩)]] W (Got lo g (.int .i64 time) L12 W) from fun W h => by
    rw [e11] at h
    exact rd_num h hr.2.2.2.2.2.2.2.2.2.2.2.2.1)
  have HK12 := Lib.hid (show ∀ W, Rem W lo g L12 → Calls Tryd.prog 148 #[.agg #[.pointer (some ⟨g, 0, none⟩)]] W (Got lo g (.int .i64 days) R W) from fun W h => by
    rw [e12] at h
    exact rd_num h hr.2.2.2.2.2.2.2.2.2.2.2.2.2.1)
  have hlen := hr.2.2.2.2.2.2.2.2.2.2.2.2.2.2
  have HPP := Lib.hid (And.intro hpp (And.intro e10 hlen))
  have hgl := hL0.lt.2
  have h1z : (#[.int .i64 kind, .int .i64 idn, .int .i64 idb, .int .i64 ids, .string bucket, .string key, .int .i64 upn, .int .i64 upb, .int .i64 ups, .int .i64 0, .int .i64 0, .int .i64 0, .int .i64 0, .string ⟨#[]⟩, .int .i64 0, .slice none 0 0, .int .i64 0, .int .i64 0] : Array Value).all (·.oneCell') = true := by simp [Value.oneCell']
  clear K0 K1 K2 K3 K4 K5 K6 K7 K8 K9 e0 e1 e2 e3 e4 e5 e6 e7 e8 e9 e10 e11 e12 hl hr hpp h hlen
  go_enter Tryd.func108, Tryd.ntmps108
  go_upto_region 1 with (fail)
  refine wp_letter (fun W => Rem W lo g L0 ∧ Fr w.heap.size (fun k => k = g) w W ∧ Blk W w.heap.size 187 #[.pointer (some ⟨g, 0, none⟩)] ∧ Blk W (w.heap.size + 1) 81 #[.int .i64 0, .int .i64 0, .int .i64 0, .int .i64 0, .string ⟨#[]⟩, .string ⟨#[]⟩, .int .i64 0, .int .i64 0, .int .i64 0, .int .i64 0, .int .i64 0, .int .i64 0, .int .i64 0, .string ⟨#[]⟩, .int .i64 0, .slice none 0 0, .int .i64 0, .int .i64 0] ∧ w.heap.size + 2 ≤ W.heap.size)
    ⟨(hL0.alloc _).alloc _, ((Fr.refl w.heap.size (fun k => k = g) w).alloc (Nat.le_refl _) _).alloc (by simp) _, (Blk.new w 187 _).alloc _, Blk.new1 w _ 81 _, by simp⟩ ?_
  rintro W ⟨hR, hf, hX, hY, hW⟩
  obtain ⟨x, hx⟩ : ∃ x, x = w.heap.size := ⟨_, rfl⟩
  have hxg : x ≠ g := by omega
  have hyg : x + 1 ≠ g := by omega
  have hxw : w.heap.size ≤ x + 1 := by omega
  rw [← hx] at hX hY hW ⊢
  have cX := hX.cell
  have cX0 := cX 0
  have H0 := Lib.hid (And.intro hR (And.intro hf (And.intro hX hY)))
  have HW := Lib.hid (And.intro hW hx)
  clear hR hf hX hY hx hL0 cX hW
  go_cut [3] from 5 to 15 (fun s wx => ∃ z : Nat, s = .pointer (some ⟨z, 0, none⟩) ∧ x + 2 ≤ z ∧ Rem wx lo g L5 ∧ Fr w.heap.size (fun k => k = g) w wx ∧ Blk wx x 187 #[.pointer (some ⟨g, 0, none⟩)] ∧ Blk wx (x + 1) 81 #[.int .i64 0, .int .i64 0, .int .i64 0, .int .i64 0, .string ⟨#[]⟩, .string ⟨#[]⟩, .int .i64 0, .int .i64 0, .int .i64 0, .int .i64 0, .int .i64 0, .int .i64 0, .int .i64 0, .string ⟨#[]⟩, .int .i64 0, .slice none 0 0, .int .i64 0, .int .i64 0] ∧ Blk wx z 81 #[.int .i64 kind, .int .i64 idn, .int .i64 idb, .int .i64 ids, .string bucket, .string key, .int .i64 upn, .int .i64 upb, .int .i64 ups, .int .i64 0, .int .i64 0, .int .i64 0, .int .i64 0, .string ⟨#[]⟩, .int .i64 0, .slice none 0 0, .int .i64 0, .int .i64 0])
  case first =>
    go_region_held3 (fun w' => w'.cell? ⟨x, 0, none⟩ = some (.pointer (some ⟨g, 0, none⟩))) (go_keep)
      (first
       | (go_at_call 148; (with_reducible refine (HK0.out (W.alloc (.cells #[.int .i64 0, .int .i64 0, .int .i64 0, .int .i64 0, .string ⟨#[]⟩, .string ⟨#[]⟩, .int .i64 0, .int .i64 0, .int .i64 0, .int .i64 0, .int .i64 0, .int .i64 0, .int .i64 0, .string ⟨#[]⟩, .int .i64 0, .slice none 0 0, .int .i64 0, .int .i64 0] 81)).drew (H0.out.1.alloc _).drew).mono ?_); rintro e w1 ⟨rfl, R1, f1⟩; have Z1 := (Blk.new W 81 #[.int .i64 0, .int .i64 0, .int .i64 0, .int .i64 0, .string ⟨#[]⟩, .string ⟨#[]⟩, .int .i64 0, .int .i64 0, .int .i64 0, .int .i64 0, .int .i64 0, .int .i64 0, .int .i64 0, .string ⟨#[]⟩, .int .i64 0, .slice none 0 0, .int .i64 0, .int .i64 0]).drew.keep f1 (Nat.ne_of_gt H0.out.1.lt.2); have HZ1 := Lib.hid (And.intro Z1 (And.intro (Nat.ne_of_gt H0.out.1.lt.2) HW.out.1)); clear Z1; have X1 := (H0.out.2.2.1.alloc (.cells #[.int .i64 0, .int .i64 0, .int .i64 0, .int .i64 0, .string ⟨#[]⟩, .string ⟨#[]⟩, .int .i64 0, .int .i64 0, .int .i64 0, .int .i64 0, .int .i64 0, .int .i64 0, .int .i64 0, .string ⟨#[]⟩, .int .i64 0, .slice none 0 0, .int .i64 0, .int .i64 0] 81)).drew.keep f1 hxg; have Y1 := (H0.out.2.2.2.alloc (.cells #[.int .i64 0, .int .i64 0, .int .i64 0, .int .i64 0, .string ⟨#[]⟩, .string ⟨#[]⟩, .int .i64 0, .int .i64 0, .int .i64 0, .int .i64 0, .int .i64 0, .int .i64 0, .int .i64 0, .string ⟨#[]⟩, .int .i64 0, .slice none 0 0, .int .i64 0, .int .i64 0] 81)).drew.keep f1 hyg; have c1 := X1.cell 0; have F1 := frtail (((Below.refl _ _).alloc (Nat.le_refl _) (.cells #[.int .i64 0, .int .i64 0, .int .i64 0, .int .i64 0, .string ⟨#[]⟩, .string ⟨#[]⟩, .int .i64 0, .int .i64 0, .int .i64 0, .int .i64 0, .int .i64 0, .int .i64 0, .int .i64 0, .string ⟨#[]⟩, .int .i64 0, .slice none 0 0, .int .i64 0, .int .i64 0] 81)).drew) H0.out.2.1 f1; have s1 := Nat.le_trans HW.out.1 (frsize (((Below.refl _ _).alloc (Nat.le_refl _) (.cells #[.int .i64 0, .int .i64 0, .int .i64 0, .int .i64 0, .string ⟨#[]⟩, .string ⟨#[]⟩, .int .i64 0, .int .i64 0, .int .i64 0, .int .i64 0, .int .i64 0, .int .i64 0, .int .i64 0, .string ⟨#[]⟩, .int .i64 0, .slice none 0 0, .int .i64 0, .int .i64 0] 81)).drew) f1); have HW1 := Lib.hid s1; have H1 := Lib.hid (And.intro R1 (And.intro F1 (And.intro X1 Y1))); clear R1 f1 X1 Y1 F1 s1)
       | (go_at_call 148; (with_reducible refine (HK0.out W.drew H0.out.1.drew).mono ?_); rintro e w1 ⟨rfl, R1, f1⟩; have X1 := (H0.out.2.2.1.drew).keep f1 hxg; have Y1 := (H0.out.2.2.2.drew).keep f1 hyg; have c1 := X1.cell 0; have F1 := frtail ((Below.refl _ _).drew) H0.out.2.1 f1; have s1 := Nat.le_trans HW.out.1 (frsize ((Below.refl _ _).drew) f1); have HW1 := Lib.hid s1; have H1 := Lib.hid (And.intro R1 (And.intro F1 (And.intro X1 Y1))); clear R1 f1 X1 Y1 F1 s1)
       | (go_at_call 149; (with_reducible refine (HK1.out w1 H1.out.1).mono ?_); rintro e w2 ⟨rfl, R2, f2⟩; have Z2 := HZ1.out.1.keep f2 HZ1.out.2.1; have HZ2 := Lib.hid (And.intro Z2 HZ1.out.2); clear Z2; have X2 := (H1.out.2.2.1).keep f2 hxg; have Y2 := (H1.out.2.2.2).keep f2 hyg; have c2 := X2.cell 0; have F2 := frtail (Below.refl _ _) H1.out.2.1 f2; have s2 := Nat.le_trans HW1.out (frsize (Below.refl _ _) f2); have HW2 := Lib.hid s2; have H2 := Lib.hid (And.intro R2 (And.intro F2 (And.intro X2 Y2))); clear R2 f2 X2 Y2 F2 s2)
       | (go_at_call 149; (with_reducible refine (HK1.out (w1.alloc (.cells #[.int .i64 0, .int .i64 0, .int .i64 0, .int .i64 0, .string ⟨#[]⟩, .string ⟨#[]⟩, .int .i64 0, .int .i64 0, .int .i64 0, .int .i64 0, .int .i64 0, .int .i64 0, .int .i64 0, .string ⟨#[]⟩, .int .i64 0, .slice none 0 0, .int .i64 0, .int .i64 0] 81)) (H1.out.1.alloc _)).mono ?_); rintro e w2 ⟨rfl, R2, f2⟩; have Z2 := (Blk.new w1 81 #[.int .i64 0, .int .i64 0, .int .i64 0, .int .i64 0, .string ⟨#[]⟩, .string ⟨#[]⟩, .int .i64 0, .int .i64 0, .int .i64 0, .int .i64 0, .int .i64 0, .int .i64 0, .int .i64 0, .string ⟨#[]⟩, .int .i64 0, .slice none 0 0, .int .i64 0, .int .i64 0]).keep f2 (Nat.ne_of_gt H1.out.1.lt.2); have HZ2 := Lib.hid (And.intro Z2 (And.intro (Nat.ne_of_gt H1.out.1.lt.2) HW1.out)); clear Z2; have X2 := (H1.out.2.2.1.alloc (.cells #[.int .i64 0, .int .i64 0, .int .i64 0, .int .i64 0, .string ⟨#[]⟩, .string ⟨#[]⟩, .int .i64 0, .int .i64 0, .int .i64 0, .int .i64 0, .int .i64 0, .int .i64 0, .int .i64 0, .string ⟨#[]⟩, .int .i64 0, .slice none 0 0, .int .i64 0, .int .i64 0] 81)).keep f2 hxg; have Y2 := (H1.out.2.2.2.alloc (.cells #[.int .i64 0, .int .i64 0, .int .i64 0, .int .i64 0, .string ⟨#[]⟩, .string ⟨#[]⟩, .int .i64 0, .int .i64 0, .int .i64 0, .int .i64 0, .int .i64 0, .int .i64 0, .int .i64 0, .string ⟨#[]⟩, .int .i64 0, .slice none 0 0, .int .i64 0, .int .i64 0] 81)).keep f2 hyg; have c2 := X2.cell 0; have F2 := frtail ((Below.refl _ _).alloc (Nat.le_refl _) (.cells #[.int .i64 0, .int .i64 0, .int .i64 0, .int .i64 0, .string ⟨#[]⟩, .string ⟨#[]⟩, .int .i64 0, .int .i64 0, .int .i64 0, .int .i64 0, .int .i64 0, .int .i64 0, .int .i64 0, .string ⟨#[]⟩, .int .i64 0, .slice none 0 0, .int .i64 0, .int .i64 0] 81)) H1.out.2.1 f2; have s2 := Nat.le_trans HW1.out (frsize ((Below.refl _ _).alloc (Nat.le_refl _) (.cells #[.int .i64 0, .int .i64 0, .int .i64 0, .int .i64 0, .string ⟨#[]⟩, .string ⟨#[]⟩, .int .i64 0, .int .i64 0, .int .i64 0, .int .i64 0, .int .i64 0, .int .i64 0, .int .i64 0, .string ⟨#[]⟩, .int .i64 0, .slice none 0 0, .int .i64 0, .int .i64 0] 81)) f2); have HW2 := Lib.hid s2; have H2 := Lib.hid (And.intro R2 (And.intro F2 (And.intro X2 Y2))); clear R2 f2 X2 Y2 F2 s2)
       | (go_at_call 149; (with_reducible refine (HK1.out w1 H1.out.1).mono ?_); rintro e w2 ⟨rfl, R2, f2⟩; have X2 := (H1.out.2.2.1).keep f2 hxg; have Y2 := (H1.out.2.2.2).keep f2 hyg; have c2 := X2.cell 0; have F2 := frtail (Below.refl _ _) H1.out.2.1 f2; have s2 := Nat.le_trans HW1.out (frsize (Below.refl _ _) f2); have HW2 := Lib.hid s2; have H2 := Lib.hid (And.intro R2 (And.intro F2 (And.intro X2 Y2))); clear R2 f2 X2 Y2 F2 s2)
       | (go_at_call 150; (with_reducible refine (HK2.out w2 H2.out.1).mono ?_); rintro e w3 ⟨rfl, R3, f3⟩; have Z3 := HZ2.out.1.keep f3 HZ2.out.2.1; have HZ3 := Lib.hid (And.intro Z3 HZ2.out.2); clear Z3; have X3 := (H2.out.2.2.1).keep f3 hxg; have Y3 := (H2.out.2.2.2).keep f3 hyg; have c3 := X3.cell 0; have F3 := frtail (Below.refl _ _) H2.out.2.1 f3; have s3 := Nat.le_trans HW2.out (frsize (Below.refl _ _) f3); have HW3 := Lib.hid s3; have H3 := Lib.hid (And.intro R3 (And.intro F3 (And.intro X3 Y3))); clear R3 f3 X3 Y3 F3 s3)
       | (go_at_call 150; (with_reducible refine (HK2.out (w2.alloc (.cells #[.int .i64 0, .int .i64 0, .int .i64 0, .int .i64 0, .string ⟨#[]⟩, .string ⟨#[]⟩, .int .i64 0, .int .i64 0, .int .i64 0, .int .i64 0, .int .i64 0, .int .i64 0, .int .i64 0, .string ⟨#[]⟩, .int .i64 0, .slice none 0 0, .int .i64 0, .int .i64 0] 81)) (H2.out.1.alloc _)).mono ?_); rintro e w3 ⟨rfl, R3, f3⟩; have Z3 := (Blk.new w2 81 #[.int .i64 0, .int .i64 0, .int .i64 0, .int .i64 0, .string ⟨#[]⟩, .string ⟨#[]⟩, .int .i64 0, .int .i64 0, .int .i64 0, .int .i64 0, .int .i64 0, .int .i64 0, .int .i64 0, .string ⟨#[]⟩, .int .i64 0, .slice none 0 0, .int .i64 0, .int .i64 0]).keep f3 (Nat.ne_of_gt H2.out.1.lt.2); have HZ3 := Lib.hid (And.intro Z3 (And.intro (Nat.ne_of_gt H2.out.1.lt.2) HW2.out)); clear Z3; have X3 := (H2.out.2.2.1.alloc (.cells #[.int .i64 0, .int .i64 0, .int .i64 0, .int .i64 0, .string ⟨#[]⟩, .string ⟨#[]⟩, .int .i64 0, .int .i64 0, .int .i64 0, .int .i64 0, .int .i64 0, .int .i64 0, .int .i64 0, .string ⟨#[]⟩, .int .i64 0, .slice none 0 0, .int .i64 0, .int .i64 0] 81)).keep f3 hxg; have Y3 := (H2.out.2.2.2.alloc (.cells #[.int .i64 0, .int .i64 0, .int .i64 0, .int .i64 0, .string ⟨#[]⟩, .string ⟨#[]⟩, .int .i64 0, .int .i64 0, .int .i64 0, .int .i64 0, .int .i64 0, .int .i64 0, .int .i64 0, .string ⟨#[]⟩, .int .i64 0, .slice none 0 0, .int .i64 0, .int .i64 0] 81)).keep f3 hyg; have c3 := X3.cell 0; have F3 := frtail ((Below.refl _ _).alloc (Nat.le_refl _) (.cells #[.int .i64 0, .int .i64 0, .int .i64 0, .int .i64 0, .string ⟨#[]⟩, .string ⟨#[]⟩, .int .i64 0, .int .i64 0, .int .i64 0, .int .i64 0, .int .i64 0, .int .i64 0, .int .i64 0, .string ⟨#[]⟩, .int .i64 0, .slice none 0 0, .int .i64 0, .int .i64 0] 81)) H2.out.2.1 f3; have s3 := Nat.le_trans HW2.out (frsize ((Below.refl _ _).alloc (Nat.le_refl _) (.cells #[.int .i64 0, .int .i64 0, .int .i64 0, .int .i64 0, .string ⟨#[]⟩, .string ⟨#[]⟩, .int .i64 0, .int .i64 0, .int .i64 0, .int .i64 0, .int .i64 0, .int .i64 0, .int .i64 0, .string ⟨#[]⟩, .int .i64 0, .slice none 0 0, .int .i64 0, .int .i64 0] 81)) f3); have HW3 := Lib.hid s3; have H3 := Lib.hid (And.intro R3 (And.intro F3 (And.intro X3 Y3))); clear R3 f3 X3 Y3 F3 s3)
       | (go_at_call 150; (with_reducible refine (HK2.out w2 H2.out.1).mono ?_); rintro e w3 ⟨rfl, R3, f3⟩; have X3 := (H2.out.2.2.1).keep f3 hxg; have Y3 := (H2.out.2.2.2).keep f3 hyg; have c3 := X3.cell 0; have F3 := frtail (Below.refl _ _) H2.out.2.1 f3; have s3 := Nat.le_trans HW2.out (frsize (Below.refl _ _) f3); have HW3 := Lib.hid s3; have H3 := Lib.hid (And.intro R3 (And.intro F3 (And.intro X3 Y3))); clear R3 f3 X3 Y3 F3 s3)
       | (go_at_call 150; (with_reducible refine (HK3.out w3 H3.out.1).mono ?_); rintro e w4 ⟨rfl, R4, f4⟩; have Z4 := HZ3.out.1.keep f4 HZ3.out.2.1; have HZ4 := Lib.hid (And.intro Z4 HZ3.out.2); clear Z4; have X4 := (H3.out.2.2.1).keep f4 hxg; have Y4 := (H3.out.2.2.2).keep f4 hyg; have c4 := X4.cell 0; have F4 := frtail (Below.refl _ _) H3.out.2.1 f4; have s4 := Nat.le_trans HW3.out (frsize (Below.refl _ _) f4); have HW4 := Lib.hid s4; have H4 := Lib.hid (And.intro R4 (And.intro F4 (And.intro X4 Y4))); clear R4 f4 X4 Y4 F4 s4)
       | (go_at_call 150; (with_reducible refine (HK3.out (w3.alloc (.cells #[.int .i64 0, .int .i64 0, .int .i64 0, .int .i64 0, .string ⟨#[]⟩, .string ⟨#[]⟩, .int .i64 0, .int .i64 0, .int .i64 0, .int .i64 0, .int .i64 0, .int .i64 0, .int .i64 0, .string ⟨#[]⟩, .int .i64 0, .slice none 0 0, .int .i64 0, .int .i64 0] 81)) (H3.out.1.alloc _)).mono ?_); rintro e w4 ⟨rfl, R4, f4⟩; have Z4 := (Blk.new w3 81 #[.int .i64 0, .int .i64 0, .int .i64 0, .int .i64 0, .string ⟨#[]⟩, .string ⟨#[]⟩, .int .i64 0, .int .i64 0, .int .i64 0, .int .i64 0, .int .i64 0, .int .i64 0, .int .i64 0, .string ⟨#[]⟩, .int .i64 0, .slice none 0 0, .int .i64 0, .int .i64 0]).keep f4 (Nat.ne_of_gt H3.out.1.lt.2); have HZ4 := Lib.hid (And.intro Z4 (And.intro (Nat.ne_of_gt H3.out.1.lt.2) HW3.out)); clear Z4; have X4 := (H3.out.2.2.1.alloc (.cells #[.int .i64 0, .int .i64 0, .int .i64 0, .int .i64 0, .string ⟨#[]⟩, .string ⟨#[]⟩, .int .i64 0, .int .i64 0, .int .i64 0, .int .i64 0, .int .i64 0, .int .i64 0, .int .i64 0, .string ⟨#[]⟩, .int .i64 0, .slice none 0 0, .int .i64 0, .int .i64 0] 81)).keep f4 hxg; have Y4 := (H3.out.2.2.2.alloc (.cells #[.int .i64 0, .int .i64 0, .int .i64 0, .int .i64 0, .string ⟨#[]⟩, .string ⟨#[]⟩, .int .i64 0, .int .i64 0, .int .i64 0, .int .i64 0, .int .i64 0, .int .i64 0, .int .i64 0, .string ⟨#[]⟩, .int .i64 0, .slice none 0 0, .int .i64 0, .int .i64 0] 81)).keep f4 hyg; have c4 := X4.cell 0; have F4 := frtail ((Below.refl _ _).alloc (Nat.le_refl _) (.cells #[.int .i64 0, .int .i64 0, .int .i64 0, .int .i64 0, .string ⟨#[]⟩, .string ⟨#[]⟩, .int .i64 0, .int .i64 0, .int .i64 0, .int .i64 0, .int .i64 0, .int .i64 0, .int .i64 0, .string ⟨#[]⟩, .int .i64 0, .slice none 0 0, .int .i64 0, .int .i64 0] 81)) H3.out.2.1 f4; have s4 := Nat.le_trans HW3.out (frsize ((Below.refl _ _).alloc (Nat.le_refl _) (.cells #[.int .i64 0, .int .i64 0, .int .i64 0, .int .i64 0, .string ⟨#[]⟩, .string ⟨#[]⟩, .int .i64 0, .int .i64 0, .int .i64 0, .int .i64 0, .int .i64 0, .int .i64 0, .int .i64 0, .string ⟨#[]⟩, .int .i64 0, .slice none 0 0, .int .i64 0, .int .i64 0] 81)) f4); have HW4 := Lib.hid s4; have H4 := Lib.hid (And.intro R4 (And.intro F4 (And.intro X4 Y4))); clear R4 f4 X4 Y4 F4 s4)
       | (go_at_call 150; (with_reducible refine (HK3.out w3 H3.out.1).mono ?_); rintro e w4 ⟨rfl, R4, f4⟩; have X4 := (H3.out.2.2.1).keep f4 hxg; have Y4 := (H3.out.2.2.2).keep f4 hyg; have c4 := X4.cell 0; have F4 := frtail (Below.refl _ _) H3.out.2.1 f4; have s4 := Nat.le_trans HW3.out (frsize (Below.refl _ _) f4); have HW4 := Lib.hid s4; have H4 := Lib.hid (And.intro R4 (And.intro F4 (And.intro X4 Y4))); clear R4 f4 X4 Y4 F4 s4)
       | (go_at_call 149; (with_reducible refine (HK4.out w4 H4.out.1).mono ?_); rintro e w5 ⟨rfl, R5, f5⟩; have Z5 := HZ4.out.1.keep f5 HZ4.out.2.1; have HZ5 := Lib.hid (And.intro Z5 HZ4.out.2); have nz := ne2 HZ5.out.2.2; have hz5 := HZ5.out.2.1; have X5 := (H4.out.2.2.1).keep f5 hxg; have Y5 := (H4.out.2.2.2).keep f5 hyg; have c5 := X5.cell 0; have F5 := frtail (Below.refl _ _) H4.out.2.1 f5; have s5 := Nat.le_trans HW4.out (frsize (Below.refl _ _) f5); have HW5 := Lib.hid s5; have H5 := Lib.hid (And.intro R5 (And.intro F5 (And.intro X5 Y5))); obtain ⟨W6, e1, A6, q1, q2, q3⟩ := store81 #[.int .i64 kind, .int .i64 idn, .int .i64 idb, .int .i64 ids, .string bucket, .string key, .int .i64 upn, .int .i64 upb, .int .i64 ups, .int .i64 0, .int .i64 0, .int .i64 0, .int .i64 0, .string ⟨#[]⟩, .int .i64 0, .slice none 0 0, .int .i64 0, .int .i64 0] Z5 rfl h1z; have X6 := q1 _ _ _ X5 nz; have Y6 := q1 _ _ _ Y5 (ne1 HZ5.out.2.2); have R6 := q2 _ _ _ R5 hz5; have F6 := F5.trans (q3 _ _ (.inr (zlow HW.out.2 HZ5.out.2.2))); clear q1 q2 q3 Z5; simp [go_sem] at e1; have c6 := X6.cell 0; have H6 := Lib.hid (And.intro R6 (And.intro F6 (And.intro X6 (And.intro Y6 A6)))); clear A6 X6 Y6 R6 F6; clear R5 f5 X5 Y5 F5 s5)
       | (go_at_call 149; (with_reducible refine (HK4.out (w4.alloc (.cells #[.int .i64 0, .int .i64 0, .int .i64 0, .int .i64 0, .string ⟨#[]⟩, .string ⟨#[]⟩, .int .i64 0, .int .i64 0, .int .i64 0, .int .i64 0, .int .i64 0, .int .i64 0, .int .i64 0, .string ⟨#[]⟩, .int .i64 0, .slice none 0 0, .int .i64 0, .int .i64 0] 81)) (H4.out.1.alloc _)).mono ?_); rintro e w5 ⟨rfl, R5, f5⟩; have Z5 := (Blk.new w4 81 #[.int .i64 0, .int .i64 0, .int .i64 0, .int .i64 0, .string ⟨#[]⟩, .string ⟨#[]⟩, .int .i64 0, .int .i64 0, .int .i64 0, .int .i64 0, .int .i64 0, .int .i64 0, .int .i64 0, .string ⟨#[]⟩, .int .i64 0, .slice none 0 0, .int .i64 0, .int .i64 0]).keep f5 (Nat.ne_of_gt H4.out.1.lt.2); have HZ5 := Lib.hid (And.intro Z5 (And.intro (Nat.ne_of_gt H4.out.1.lt.2) HW4.out)); have nz := ne2 HZ5.out.2.2; have e1 := stC81 #[.int .i64 kind, .int .i64 idn, .int .i64 idb, .int .i64 ids, .string bucket, .string key, .int .i64 upn, .int .i64 upb, .int .i64 ups, .int .i64 0, .int .i64 0, .int .i64 0, .int .i64 0, .string ⟨#[]⟩, .int .i64 0, .slice none 0 0, .int .i64 0, .int .i64 0] Z5 rfl h1z; have A6 := Z5.row #[.int .i64 kind, .int .i64 idn, .int .i64 idb, .int .i64 ids, .string bucket, .string key, .int .i64 upn, .int .i64 upb, .int .i64 ups, .int .i64 0, .int .i64 0, .int .i64 0, .int .i64 0, .string ⟨#[]⟩, .int .i64 0, .slice none 0 0, .int .i64 0, .int .i64 0]; have hz5 := HZ5.out.2.1; have X5 := (H4.out.2.2.1.alloc (.cells #[.int .i64 0, .int .i64 0, .int .i64 0, .int .i64 0, .string ⟨#[]⟩, .string ⟨#[]⟩, .int .i64 0, .int .i64 0, .int .i64 0, .int .i64 0, .int .i64 0, .int .i64 0, .int .i64 0, .string ⟨#[]⟩, .int .i64 0, .slice none 0 0, .int .i64 0, .int .i64 0] 81)).keep f5 hxg; have Y5 := (H4.out.2.2.2.alloc (.cells #[.int .i64 0, .int .i64 0, .int .i64 0, .int .i64 0, .string ⟨#[]⟩, .string ⟨#[]⟩, .int .i64 0, .int .i64 0, .int .i64 0, .int .i64 0, .int .i64 0, .int .i64 0, .int .i64 0, .string ⟨#[]⟩, .int .i64 0, .slice none 0 0, .int .i64 0, .int .i64 0] 81)).keep f5 hyg; have c5 := X5.cell 0; have F5 := frtail ((Below.refl _ _).alloc (Nat.le_refl _) (.cells #[.int .i64 0, .int .i64 0, .int .i64 0, .int .i64 0, .string ⟨#[]⟩, .string ⟨#[]⟩, .int .i64 0, .int .i64 0, .int .i64 0, .int .i64 0, .int .i64 0, .int .i64 0, .int .i64 0, .string ⟨#[]⟩, .int .i64 0, .slice none 0 0, .int .i64 0, .int .i64 0] 81)) H4.out.2.1 f5; have s5 := Nat.le_trans HW4.out (frsize ((Below.refl _ _).alloc (Nat.le_refl _) (.cells #[.int .i64 0, .int .i64 0, .int .i64 0, .int .i64 0, .string ⟨#[]⟩, .string ⟨#[]⟩, .int .i64 0, .int .i64 0, .int .i64 0, .int .i64 0, .int .i64 0, .int .i64 0, .int .i64 0, .string ⟨#[]⟩, .int .i64 0, .slice none 0 0, .int .i64 0, .int .i64 0] 81)) f5); have HW5 := Lib.hid s5; have H5 := Lib.hid (And.intro R5 (And.intro F5 (And.intro X5 Y5))); obtain ⟨W6, e1, A6, q1, q2, q3⟩ := store81 #[.int .i64 kind, .int .i64 idn, .int .i64 idb, .int .i64 ids, .string bucket, .string key, .int .i64 upn, .int .i64 upb, .int .i64 ups, .int .i64 0, .int .i64 0, .int .i64 0, .int .i64 0, .string ⟨#[]⟩, .int .i64 0, .slice none 0 0, .int .i64 0, .int .i64 0] Z5 rfl h1z; have X6 := q1 _ _ _ X5 nz; have Y6 := q1 _ _ _ Y5 (ne1 HZ5.out.2.2); have R6 := q2 _ _ _ R5 hz5; have F6 := F5.trans (q3 _ _ (.inr (zlow HW.out.2 HZ5.out.2.2))); clear q1 q2 q3 Z5; simp [go_sem] at e1; have c6 := X6.cell 0; have H6 := Lib.hid (And.intro R6 (And.intro F6 (And.intro X6 (And.intro Y6 A6)))); clear A6 X6 Y6 R6 F6; clear R5 f5 X5 Y5 F5 s5)
       | (go_at_call 149; (with_reducible refine (HK4.out w4 H4.out.1).mono ?_); rintro e w5 ⟨rfl, R5, f5⟩; have X5 := (H4.out.2.2.1).keep f5 hxg; have Y5 := (H4.out.2.2.2).keep f5 hyg; have c5 := X5.cell 0; have F5 := frtail (Below.refl _ _) H4.out.2.1 f5; have s5 := Nat.le_trans HW4.out (frsize (Below.refl _ _) f5); have HW5 := Lib.hid s5; have H5 := Lib.hid (And.intro R5 (And.intro F5 (And.intro X5 Y5))); have nw := ne2 s5; have nw' := Ne.symm nw; clear R5 f5 X5 Y5 F5 s5))
    all_goals first
      | (clear e1
         go_wp2_with (fail)
         go_meet
         exact ⟨_, rfl, HZ5.out.2.2, H6.out.1, H6.out.2.1, H6.out.2.2.1, H6.out.2.2.2.1, H6.out.2.2.2.2⟩)
      | skip
    have hF := H5.out.2.1.alloc (Nat.le_trans (by have := HW.out.2; omega) HW5.out) (.cells #[.int .i64 kind, .int .i64 idn, .int .i64 idb, .int .i64 ids, .string bucket, .string key, .int .i64 upn, .int .i64 upb, .int .i64 ups, .int .i64 0, .int .i64 0, .int .i64 0, .int .i64 0, .string ⟨#[]⟩, .int .i64 0, .slice none 0 0, .int .i64 0, .int .i64 0] 81)
    have HQ := Lib.hid hF
    clear hF
    go_wp2_with (fail)
    go_meet
    exact ⟨_, rfl, HW5.out, H5.out.1.alloc _, HQ.out, H5.out.2.2.1.alloc _, H5.out.2.2.2.alloc _, Blk.new w5 81 _⟩
  case rest =>
    obtain ⟨z, rfl, hz2, hR5, hF5, hX5, hY5, hZ5⟩ := hcut
    have hzg : z ≠ g := by have := HW.out.2; omega
    have nz := ne2 hz2
    have nz' := Ne.symm nz
    have ny := ne1 hz2
    have hzw := zlow HW.out.2 hz2
    have HS := Lib.hid (And.intro hR5 (And.intro hF5 (And.intro hX5 (And.intro hY5 hZ5))))
    have cX0 := hX5.cell 0
    clear hR5 hF5 hX5 hY5 hZ5
    go_upto_region 2 with (fail)
    have HT := Lib.hid (show Rem wc.drew lo g L5 ∧ Fr w.heap.size (fun k => k = g) w wc.drew ∧ Blk wc.drew x 187 #[.pointer (some ⟨g, 0, none⟩)] ∧ Blk wc.drew (x + 1) 81 #[.int .i64 0, .int .i64 0, .int .i64 0, .int .i64 0, .string ⟨#[]⟩, .string ⟨#[]⟩, .int .i64 0, .int .i64 0, .int .i64 0, .int .i64 0, .int .i64 0, .int .i64 0, .int .i64 0, .string ⟨#[]⟩, .int .i64 0, .slice none 0 0, .int .i64 0, .int .i64 0] ∧ Blk wc.drew z 81 #[.int .i64 kind, .int .i64 idn, .int .i64 idb, .int .i64 ids, .string bucket, .string key, .int .i64 upn, .int .i64 upb, .int .i64 ups, .int .i64 0, .int .i64 0, .int .i64 0, .int .i64 0, .string ⟨#[]⟩, .int .i64 0, .slice none 0 0, .int .i64 0, .int .i64 0] from ⟨HS.out.1.drew, HS.out.2.1.drew, HS.out.2.2.1.drew, HS.out.2.2.2.1.drew, HS.out.2.2.2.2.drew⟩)
    go_region_held3 (fun w' => w'.cell? ⟨x, 0, none⟩ = some (.pointer (some ⟨g, 0, none⟩))) (go_keep)
      (first
       | (go_at_call 149; (with_reducible refine (HK5.out wc.drew HT.out.1).mono ?_); rintro e w6 ⟨rfl, R6, f6⟩; have H6 := Lib.hid (And.intro R6 (And.intro (FrG.trans HT.out.2.1 f6) (And.intro (HT.out.2.2.1.keep f6 hxg) (And.intro (HT.out.2.2.2.1.keep f6 hyg) (HT.out.2.2.2.2.keep f6 hzg))))); have c6 := H6.out.2.2.1.cell 0; clear R6 f6)
       | (go_at_call 148; (with_reducible refine (HK6.out w6 H6.out.1).mono ?_); rintro e w7 ⟨rfl, R7, f7⟩; have H7 := Lib.hid (And.intro R7 (And.intro (FrG.trans H6.out.2.1 f7) (And.intro (H6.out.2.2.1.keep f7 hxg) (And.intro (H6.out.2.2.2.1.keep f7 hyg) (H6.out.2.2.2.2.keep f7 hzg))))); have c7 := H7.out.2.2.1.cell 0; clear R7 f7)
       | (go_at_call 150; (with_reducible refine (HK7.out w7 H7.out.1).mono ?_); rintro e w8 ⟨rfl, R8, f8⟩; have H8 := Lib.hid (And.intro R8 (And.intro (FrG.trans H7.out.2.1 f8) (And.intro (H7.out.2.2.1.keep f8 hxg) (And.intro (H7.out.2.2.2.1.keep f8 hyg) (H7.out.2.2.2.2.keep f8 hzg))))); have c8 := H8.out.2.2.1.cell 0; have cZ8 := H8.out.2.2.2.2.cell; have fZ8 := H8.out.2.2.2.2.frozen; clear R8 f8))
    have hfr := (((((Fr.refl w8.heap.size (fun k => k = z) w8).setCell (p := ⟨z, 9, none⟩) (.inl rfl) (.int .i64 pbn)).setCell (p := ⟨z, 10, none⟩) (.inl rfl) (.int .i64 pbb)).setCell (p := ⟨z, 11, none⟩) (.inl rfl) (.int .i64 pbs)).setCell (p := ⟨z, 12, none⟩) (.inl rfl) (.int .i64 psize)).setCell (p := ⟨z, 13, none⟩) (.inl rfl) (.string etag)
    have HU := Lib.hid (upd hfr H8.out hzg nz ny hzw)
    have hZ := ((((H8.out.2.2.2.2.set_ 9 (.int .i64 pbn)).set_ 10 (.int .i64 pbb)).set_ 11 (.int .i64 pbs)).set_ 12 (.int .i64 psize)).set_ 13 (.string etag)
    go_upto_region 3 with (fail)
    refine wp_letter (fun W => Rem W lo g L8 ∧ Fr w.heap.size (fun k => k = g) w W ∧ Blk W x 187 #[.pointer (some ⟨g, 0, none⟩)] ∧ Blk W (x + 1) 81 #[.int .i64 0, .int .i64 0, .int .i64 0, .int .i64 0, .string ⟨#[]⟩, .string ⟨#[]⟩, .int .i64 0, .int .i64 0, .int .i64 0, .int .i64 0, .int .i64 0, .int .i64 0, .int .i64 0, .string ⟨#[]⟩, .int .i64 0, .slice none 0 0, .int .i64 0, .int .i64 0] ∧ Blk W z 81 #[.int .i64 kind, .int .i64 idn, .int .i64 idb, .int .i64 ids, .string bucket, .string key, .int .i64 upn, .int .i64 upb, .int .i64 ups, .int .i64 pbn, .int .i64 pbb, .int .i64 pbs, .int .i64 psize, .string etag, .int .i64 0, .slice none 0 0, .int .i64 0, .int .i64 0]) ⟨HU.out.1, HU.out.2.1, HU.out.2.2.1, HU.out.2.2.2, hZ⟩ ?_
    clear hZ hfr HU HS HT H6 H7 H8 cX0 c6 c7 c8 cZ8 fZ8
    rintro W3 hS
    have HS := Lib.hid hS
    have cX0 := hS.2.2.1.cell 0
    clear hS
    go_upto_region 4 with (first | (go_at_call 148; (with_reducible refine (HK8.out W3 HS.out.1).mono ?_); rintro e w9 ⟨rfl, R9, f9⟩; have H9 := Lib.hid (And.intro R9 (And.intro (FrG.trans HS.out.2.1 f9) (And.intro (HS.out.2.2.1.keep f9 hxg) (And.intro (HS.out.2.2.2.1.keep f9 hyg) (HS.out.2.2.2.2.keep f9 hzg))))); have c9 := H9.out.2.2.1.cell 0; have cZ9 := H9.out.2.2.2.2.cell; have fZ9 := H9.out.2.2.2.2.frozen; clear R9 f9) | fail)
    have hfr := (Fr.refl w9.heap.size (fun k => k = z) w9).setCell (p := ⟨z, 14, none⟩) (.inl rfl) (.int .i64 part)
    have HU := Lib.hid (upd hfr H9.out hzg nz ny hzw)
    have hZ := H9.out.2.2.2.2.set_ 14 (.int .i64 part)
    refine wp_letter (fun W => Rem W lo g L9 ∧ Fr w.heap.size (fun k => k = g) w W ∧ Blk W x 187 #[.pointer (some ⟨g, 0, none⟩)] ∧ Blk W (x + 1) 81 #[.int .i64 0, .int .i64 0, .int .i64 0, .int .i64 0, .string ⟨#[]⟩, .string ⟨#[]⟩, .int .i64 0, .int .i64 0, .int .i64 0, .int .i64 0, .int .i64 0, .int .i64 0, .int .i64 0, .string ⟨#[]⟩, .int .i64 0, .slice none 0 0, .int .i64 0, .int .i64 0] ∧ Blk W z 81 #[.int .i64 kind, .int .i64 idn, .int .i64 idb, .int .i64 ids, .string bucket, .string key, .int .i64 upn, .int .i64 upb, .int .i64 ups, .int .i64 pbn, .int .i64 pbb, .int .i64 pbs, .int .i64 psize, .string etag, .int .i64 part, .slice none 0 0, .int .i64 0, .int .i64 0]) ⟨HU.out.1, HU.out.2.1, HU.out.2.2.1, HU.out.2.2.2, hZ⟩ ?_
    clear hZ hfr HU HS H9 cX0 c9 cZ9 fZ9
    rintro W4 hS
    have HS := Lib.hid hS
    have cX0 := hS.2.2.1.cell 0
    clear hS
    have hlen := HPP.out.2.2
    have hmin : (parts.length : Int) ≤ 17 := by omega
    have hmin' : (parts.length : Int) ≤ 9223372036854775807 := by omega
    go_wp2_with (first | (go_at_call 148; (with_reducible refine (HK9.out W4 HS.out.1).mono ?_); rintro e w10 ⟨rfl, R10, f10⟩; have H10 := Lib.hid (And.intro R10 (And.intro (FrG.trans HS.out.2.1 f10) (And.intro (HS.out.2.2.1.keep f10 hxg) (And.intro (HS.out.2.2.2.1.keep f10 hyg) (HS.out.2.2.2.2.keep f10 hzg))))); have c10 := H10.out.2.2.1.cell 0; clear R10 f10) | fail)
    have HL := Lib.hid (And.intro hlen H10.out)
    clear hlen hmin H10 HS cX0 c10
    go_loopw [31] (fun i wr => ∃ (k : Nat) (PA : Option Addr) (pc : Nat), k ≤ parts.length ∧ i = .int .i64 k ∧ (Rem wr lo g ((parts.drop k).flatMap encI ++ L11) ∧ Fr w.heap.size (fun k => k = g) w wr ∧ Blk wr x 187 #[.pointer (some ⟨g, 0, none⟩)] ∧ Blk wr (x + 1) 81 #[.int .i64 0, .int .i64 0, .int .i64 0, .int .i64 0, .string ⟨#[]⟩, .string ⟨#[]⟩, .int .i64 0, .int .i64 0, .int .i64 0, .int .i64 0, .int .i64 0, .int .i64 0, .int .i64 0, .string ⟨#[]⟩, .int .i64 0, .slice none 0 0, .int .i64 0, .int .i64 0] ∧ Blk wr z 81 #[.int .i64 kind, .int .i64 idn, .int .i64 idb, .int .i64 ids, .string bucket, .string key, .int .i64 upn, .int .i64 upb, .int .i64 ups, .int .i64 pbn, .int .i64 pbb, .int .i64 pbs, .int .i64 psize, .string etag, .int .i64 part, .slice PA k pc, .int .i64 0, .int .i64 0]) ∧ OwnInts wr w.heap.size wr.heap.size (.slice PA k pc) (parts.take k)) (fun i _ => parts.length - (intOf i).toNat)
    case atStart =>
      refine ⟨0, none, 0, Nat.zero_le _, rfl, ⟨?_, HL.out.2.2⟩, ⟨⟨World.ownsRow_nil _ _ _ _, fun g hg => by simp [Value.ownBlock] at hg⟩, by simp⟩⟩
      rw [List.drop_zero, ← HPP.out.2.1]
      exact HL.out.2.1
    case round =>
      obtain ⟨k, PA, pc, hk, rfl, hst, hO⟩ := hrel
      by_cases hlt : k < parts.length
      · obtain ⟨v, hv⟩ : ∃ v, parts[k]? = some v := ⟨_, List.getElem?_eq_getElem hlt⟩
        obtain ⟨LN, hLN⟩ : ∃ l, l = (parts.drop (k + 1)).flatMap encI ++ L11 := ⟨_, rfl⟩
        have hd : (parts.drop k).flatMap encI ++ L11 = encI v ++ LN := by
          obtain ⟨h1, h2⟩ := List.getElem?_eq_some_iff.1 hv
          rw [hLN, List.drop_eq_getElem_cons h1, h2, List.flatMap_cons, List.append_assoc]
        have KN : ∀ W, Rem W lo g (encI v ++ LN) → Calls Tryd.prog 148 #[.agg #[.pointer (some ⟨g, 0, none⟩)]] W (Got lo g (.int .i64 v) LN W) := fun W h => rd_num h (HPP.out.1 v (List.mem_of_getElem? hv))
        rw [hd] at hst
        have htk : (parts.take k).length = k := by rw [List.length_take]; omega
        have htk1 : parts.take (k + 1) = parts.take k ++ [v] := by rw [List.take_add_one, hv]; rfl
        have HKN := Lib.hid KN
        have HS := Lib.hid hst
        have HO := Lib.hid (And.intro hO (And.intro htk (And.intro htk1 hLN)))
        have hk1000 : (parts.take k).length ≤ 1000 := by have := HL.out.1; omega
        have HK1000 := Lib.hid hk1000
        clear hst hO htk htk1 hLN hd KN hv hk1000
        go_upto_region 7 with (fail)
        have HT := Lib.hid (And.intro HS.out.1.drew (And.intro HS.out.2.1.drew (And.intro HS.out.2.2.1.drew (And.intro HS.out.2.2.2.1.drew HS.out.2.2.2.2.drew))))
        have cX := HT.out.2.2.1.cell
        have cZ := HT.out.2.2.2.2.cell
        refine wp_region_held_drew (S := fun _ => True) (by kernel_rfl) trivial (fun _ => ?_)
        refine wpAnyH_take (i := 0) (v := .pointer (some ⟨z, 15, none⟩)) rfl (by kernel_rfl) (by kernel_rfl) (by kernel_rfl) (fun _ _ _ h => h) (Or.inl ⟨by rfl, fun w' _ => ?_⟩) trivial ?_
        · go_simp
        simp only [Act.put, List.setIfInBounds_toArray, List.set_cons_zero, List.set_cons_succ]
        refine wpAnyH_ready (rs := [1, 2]) (by kernel_rfl) (by simp) ?_
        refine AllReadyH.cons rfl (fun K hK => ?_) ?_
        · go_simp
          refine Shut.out hK _ _ trivial (fun _ => ?_)
          clear hK K
          refine wpAnyH_ready (rs := [2]) (by kernel_rfl) (by simp) ?_
          refine AllReadyH.cons rfl (fun K hK => ?_) ?_
          · go_simp
            refine Shut.out hK _ _ trivial (fun _ => ?_)
            clear hK K
            refine wpAnyH_ready (rs := [3]) (by kernel_rfl) (by simp) ?_
            refine AllReadyH.cons rfl (fun K hK => ?_) ?_
            · go_simp
              refine (HKN.out _ HT.out.1).mono ?_
              rintro e w11 ⟨rfl, R11, f11⟩
              have hO11 : OwnInts w11 w.heap.size w11.heap.size (.slice PA (parts.take k).length pc) (parts.take k) := by
                rw [HO.out.2.1]
                exact OwnInts.wider (OwnInts.fr (w := wr.drew) HO.out.1 f11 (Nat.le_refl _) (fun j h1 h2 h3 => by omega)) (Nat.le_refl _) f11.size
              have H11 := Lib.hid (And.intro R11 (And.intro (FrG.trans HT.out.2.1 f11) (And.intro (HT.out.2.2.1.keep f11 hxg) (And.intro (HT.out.2.2.2.1.keep f11 hyg) (HT.out.2.2.2.2.keep f11 hzg)))))
              have HO11 := Lib.hid hO11
              clear cX cZ R11 f11 hO11
              have cZ := H11.out.2.2.2.2.cell
              refine Shut.out hK _ _ trivial (fun _ => ?_)
              clear hK K
              refine wpAnyH_ready (rs := [4]) (by kernel_rfl) (by simp) ?_
              refine AllReadyH.cons rfl (fun K hK => ?_) ?_
              · go_simp
                have cZa := (H11.out.2.2.2.2.alloc (.cells #[.int .i64 v] 3)).cell
                clear cZ
                have cZ := cZa
                clear cZa
                refine Shut.out hK _ _ trivial (fun _ => ?_)
                clear hK K
                refine wpAnyH_ready (rs := [5]) (by kernel_rfl) (by simp) ?_
                refine AllReadyH.cons rfl (fun K hK => ?_) ?_
                · rw [if_pos (by rfl)]
                  refine app3 (.tmp 34) (.tmp 37) w.heap.size pc k PA (parts.take k) v HO.out.2.1.symm rfl rfl HO11.out H11.out.2.1.size rfl HK1000.out ?_
                  intro A' c' W12 o12 p2 p3 p4
                  have hZ12 := p2 _ _ _ (by decide) H11.out.2.2.2.2
                  have H12 := Lib.hid (And.intro (p3 _ _ _ H11.out.1) (And.intro (p4 _ _ _ (Nat.le_refl _) H11.out.2.1) (And.intro (p2 _ _ _ (by decide) H11.out.2.2.1) (And.intro (p2 _ _ _ (by decide) H11.out.2.2.2.1) hZ12))))
                  have HO12 := Lib.hid o12
                  clear p2 p3 p4 o12 cZ
                  have cZ := hZ12.cell
                  have fZ := hZ12.frozen
                  clear hZ12
                  refine Shut.out hK _ _ trivial (fun _ => ?_)
                  clear hK K
                  refine wpAnyH_ready (rs := [6]) (by kernel_rfl) (by simp) ?_
                  refine AllReadyH.cons rfl (fun K hK => ?_) ?_
                  · go_simp
                    refine Shut.out hK _ _ trivial (fun _ => ?_)
                    clear hK K
                    refine wpAnyH_ready (rs := [7]) (by kernel_rfl) (by simp) ?_
                    refine AllReadyH.cons rfl (fun K hK => ?_) ?_
                    · have hfr := (Fr.refl W12.heap.size (fun k => k = z) W12).setCell (p := ⟨z, 15, none⟩) (.inl rfl) (.slice A' (k + 1) c')
                      have hu := upd hfr H12.out hzg nz ny hzw
                      have hz13 := H12.out.2.2.2.2.set_ 15 (.slice A' (k + 1) c')
                      have ho13 : OwnInts (W12.setCell ⟨z, 15, none⟩ (.slice A' (k + 1) c')) w.heap.size (W12.setCell ⟨z, 15, none⟩ (.slice A' (k + 1) c')).heap.size (.slice A' (k + 1) c') (parts.take (k + 1)) := by
                        rw [HO.out.2.2.1]
                        exact ⟨⟨ownsRow_far HO12.out.1.1 H12.out.2.2.2.2 (by decide), fun j hj => by simpa using HO12.out.1.2 j hj⟩, HO12.out.2⟩
                      have H13 := Lib.hid (And.intro hu.1 (And.intro hu.2.1 (And.intro hu.2.2.1 (And.intro hu.2.2.2 (And.intro hz13 ho13)))))
                      clear hu hz13 ho13 hfr
                      go_simp
                      refine Shut.out hK _ _ trivial (fun _ => ?_)
                      clear hK K
                      refine wpAnyH_done (by kernel_rfl) ?_ _
                      go_wp2_with (fail)
                      go_roundw
                      case rel => exact ⟨k + 1, A', c', by omega, by go_num, ⟨by rw [← HO.out.2.2.2]; exact H13.out.1, H13.out.2.1, H13.out.2.2.1, H13.out.2.2.2.1, H13.out.2.2.2.2.1⟩, H13.out.2.2.2.2.2⟩
                      case measure => simp [intOf]; omega
                    exact AllReadyH.nil
                  exact AllReadyH.nil
                exact AllReadyH.nil
              exact AllReadyH.nil
            exact AllReadyH.nil
          exact AllReadyH.nil
        refine AllReadyH.cons rfl (fun K hK => ?_) ?_
        · go_simp
          refine Shut.out hK _ _ trivial (fun _ => ?_)
          clear hK K
          refine wpAnyH_ready (rs := [1, 3]) (by kernel_rfl) (by simp) ?_
          refine AllReadyH.cons rfl (fun K hK => ?_) ?_
          · go_simp
            refine Shut.out hK _ _ trivial (fun _ => ?_)
            clear hK K
            refine wpAnyH_ready (rs := [3]) (by kernel_rfl) (by simp) ?_
            refine AllReadyH.cons rfl (fun K hK => ?_) ?_
            · go_simp
              refine (HKN.out _ HT.out.1).mono ?_
              rintro e w11 ⟨rfl, R11, f11⟩
              have hO11 : OwnInts w11 w.heap.size w11.heap.size (.slice PA (parts.take k).length pc) (parts.take k) := by
                rw [HO.out.2.1]
                exact OwnInts.wider (OwnInts.fr (w := wr.drew) HO.out.1 f11 (Nat.le_refl _) (fun j h1 h2 h3 => by omega)) (Nat.le_refl _) f11.size
              have H11 := Lib.hid (And.intro R11 (And.intro (FrG.trans HT.out.2.1 f11) (And.intro (HT.out.2.2.1.keep f11 hxg) (And.intro (HT.out.2.2.2.1.keep f11 hyg) (HT.out.2.2.2.2.keep f11 hzg)))))
              have HO11 := Lib.hid hO11
              clear cX cZ R11 f11 hO11
              have cZ := H11.out.2.2.2.2.cell
              refine Shut.out hK _ _ trivial (fun _ => ?_)
              clear hK K
              refine wpAnyH_ready (rs := [4]) (by kernel_rfl) (by simp) ?_
              refine AllReadyH.cons rfl (fun K hK => ?_) ?_
              · go_simp
                have cZa := (H11.out.2.2.2.2.alloc (.cells #[.int .i64 v] 3)).cell
                clear cZ
                have cZ := cZa
                clear cZa
                refine Shut.out hK _ _ trivial (fun _ => ?_)
                clear hK K
                refine wpAnyH_ready (rs := [5]) (by kernel_rfl) (by simp) ?_
                refine AllReadyH.cons rfl (fun K hK => ?_) ?_
                · rw [if_pos (by rfl)]
                  refine app3 (.tmp 34) (.tmp 37) w.heap.size pc k PA (parts.take k) v HO.out.2.1.symm rfl rfl HO11.out H11.out.2.1.size rfl HK1000.out ?_
                  intro A' c' W12 o12 p2 p3 p4
                  have hZ12 := p2 _ _ _ (by decide) H11.out.2.2.2.2
                  have H12 := Lib.hid (And.intro (p3 _ _ _ H11.out.1) (And.intro (p4 _ _ _ (Nat.le_refl _) H11.out.2.1) (And.intro (p2 _ _ _ (by decide) H11.out.2.2.1) (And.intro (p2 _ _ _ (by decide) H11.out.2.2.2.1) hZ12))))
                  have HO12 := Lib.hid o12
                  clear p2 p3 p4 o12 cZ
                  have cZ := hZ12.cell
                  have fZ := hZ12.frozen
                  clear hZ12
                  refine Shut.out hK _ _ trivial (fun _ => ?_)
                  clear hK K
                  refine wpAnyH_ready (rs := [6]) (by kernel_rfl) (by simp) ?_
                  refine AllReadyH.cons rfl (fun K hK => ?_) ?_
                  · go_simp
                    refine Shut.out hK _ _ trivial (fun _ => ?_)
                    clear hK K
                    refine wpAnyH_ready (rs := [7]) (by kernel_rfl) (by simp) ?_
                    refine AllReadyH.cons rfl (fun K hK => ?_) ?_
                    · have hfr := (Fr.refl W12.heap.size (fun k => k = z) W12).setCell (p := ⟨z, 15, none⟩) (.inl rfl) (.slice A' (k + 1) c')
                      have hu := upd hfr H12.out hzg nz ny hzw
                      have hz13 := H12.out.2.2.2.2.set_ 15 (.slice A' (k + 1) c')
                      have ho13 : OwnInts (W12.setCell ⟨z, 15, none⟩ (.slice A' (k + 1) c')) w.heap.size (W12.setCell ⟨z, 15, none⟩ (.slice A' (k + 1) c')).heap.size (.slice A' (k + 1) c') (parts.take (k + 1)) := by
                        rw [HO.out.2.2.1]
                        exact ⟨⟨ownsRow_far HO12.out.1.1 H12.out.2.2.2.2 (by decide), fun j hj => by simpa using HO12.out.1.2 j hj⟩, HO12.out.2⟩
                      have H13 := Lib.hid (And.intro hu.1 (And.intro hu.2.1 (And.intro hu.2.2.1 (And.intro hu.2.2.2 (And.intro hz13 ho13)))))
                      clear hu hz13 ho13 hfr
                      go_simp
                      refine Shut.out hK _ _ trivial (fun _ => ?_)
                      clear hK K
                      refine wpAnyH_done (by kernel_rfl) ?_ _
                      go_wp2_with (fail)
                      go_roundw
                      case rel => exact ⟨k + 1, A', c', by omega, by go_num, ⟨by rw [← HO.out.2.2.2]; exact H13.out.1, H13.out.2.1, H13.out.2.2.1, H13.out.2.2.2.1, H13.out.2.2.2.2.1⟩, H13.out.2.2.2.2.2⟩
                      case measure => simp [intOf]; omega
                    exact AllReadyH.nil
                  exact AllReadyH.nil
                exact AllReadyH.nil
              exact AllReadyH.nil
            exact AllReadyH.nil
          refine AllReadyH.cons rfl (fun K hK => ?_) ?_
          · go_simp
            refine (HKN.out _ HT.out.1).mono ?_
            rintro e w11 ⟨rfl, R11, f11⟩
            have hO11 : OwnInts w11 w.heap.size w11.heap.size (.slice PA (parts.take k).length pc) (parts.take k) := by
              rw [HO.out.2.1]
              exact OwnInts.wider (OwnInts.fr (w := wr.drew) HO.out.1 f11 (Nat.le_refl _) (fun j h1 h2 h3 => by omega)) (Nat.le_refl _) f11.size
            have H11 := Lib.hid (And.intro R11 (And.intro (FrG.trans HT.out.2.1 f11) (And.intro (HT.out.2.2.1.keep f11 hxg) (And.intro (HT.out.2.2.2.1.keep f11 hyg) (HT.out.2.2.2.2.keep f11 hzg)))))
            have HO11 := Lib.hid hO11
            clear cX cZ R11 f11 hO11
            have cZ := H11.out.2.2.2.2.cell
            refine Shut.out hK _ _ trivial (fun _ => ?_)
            clear hK K
            refine wpAnyH_ready (rs := [1, 4]) (by kernel_rfl) (by simp) ?_
            refine AllReadyH.cons rfl (fun K hK => ?_) ?_
            · go_simp
              refine Shut.out hK _ _ trivial (fun _ => ?_)
              clear hK K
              refine wpAnyH_ready (rs := [4]) (by kernel_rfl) (by simp) ?_
              refine AllReadyH.cons rfl (fun K hK => ?_) ?_
              · go_simp
                have cZa := (H11.out.2.2.2.2.alloc (.cells #[.int .i64 v] 3)).cell
                clear cZ
                have cZ := cZa
                clear cZa
                refine Shut.out hK _ _ trivial (fun _ => ?_)
                clear hK K
                refine wpAnyH_ready (rs := [5]) (by kernel_rfl) (by simp) ?_
                refine AllReadyH.cons rfl (fun K hK => ?_) ?_
                · rw [if_pos (by rfl)]
                  refine app3 (.tmp 34) (.tmp 37) w.heap.size pc k PA (parts.take k) v HO.out.2.1.symm rfl rfl HO11.out H11.out.2.1.size rfl HK1000.out ?_
                  intro A' c' W12 o12 p2 p3 p4
                  have hZ12 := p2 _ _ _ (by decide) H11.out.2.2.2.2
                  have H12 := Lib.hid (And.intro (p3 _ _ _ H11.out.1) (And.intro (p4 _ _ _ (Nat.le_refl _) H11.out.2.1) (And.intro (p2 _ _ _ (by decide) H11.out.2.2.1) (And.intro (p2 _ _ _ (by decide) H11.out.2.2.2.1) hZ12))))
                  have HO12 := Lib.hid o12
                  clear p2 p3 p4 o12 cZ
                  have cZ := hZ12.cell
                  have fZ := hZ12.frozen
                  clear hZ12
                  refine Shut.out hK _ _ trivial (fun _ => ?_)
                  clear hK K
                  refine wpAnyH_ready (rs := [6]) (by kernel_rfl) (by simp) ?_
                  refine AllReadyH.cons rfl (fun K hK => ?_) ?_
                  · go_simp
                    refine Shut.out hK _ _ trivial (fun _ => ?_)
                    clear hK K
                    refine wpAnyH_ready (rs := [7]) (by kernel_rfl) (by simp) ?_
                    refine AllReadyH.cons rfl (fun K hK => ?_) ?_
                    · have hfr := (Fr.refl W12.heap.size (fun k => k = z) W12).setCell (p := ⟨z, 15, none⟩) (.inl rfl) (.slice A' (k + 1) c')
                      have hu := upd hfr H12.out hzg nz ny hzw
                      have hz13 := H12.out.2.2.2.2.set_ 15 (.slice A' (k + 1) c')
                      have ho13 : OwnInts (W12.setCell ⟨z, 15, none⟩ (.slice A' (k + 1) c')) w.heap.size (W12.setCell ⟨z, 15, none⟩ (.slice A' (k + 1) c')).heap.size (.slice A' (k + 1) c') (parts.take (k + 1)) := by
                        rw [HO.out.2.2.1]
                        exact ⟨⟨ownsRow_far HO12.out.1.1 H12.out.2.2.2.2 (by decide), fun j hj => by simpa using HO12.out.1.2 j hj⟩, HO12.out.2⟩
                      have H13 := Lib.hid (And.intro hu.1 (And.intro hu.2.1 (And.intro hu.2.2.1 (And.intro hu.2.2.2 (And.intro hz13 ho13)))))
                      clear hu hz13 ho13 hfr
                      go_simp
                      refine Shut.out hK _ _ trivial (fun _ => ?_)
                      clear hK K
                      refine wpAnyH_done (by kernel_rfl) ?_ _
                      go_wp2_with (fail)
                      go_roundw
                      case rel => exact ⟨k + 1, A', c', by omega, by go_num, ⟨by rw [← HO.out.2.2.2]; exact H13.out.1, H13.out.2.1, H13.out.2.2.1, H13.out.2.2.2.1, H13.out.2.2.2.2.1⟩, H13.out.2.2.2.2.2⟩
                      case measure => simp [intOf]; omega
                    exact AllReadyH.nil
                  exact AllReadyH.nil
                exact AllReadyH.nil
              exact AllReadyH.nil
            refine AllReadyH.cons rfl (fun K hK => ?_) ?_
            · go_simp
              have cZa := (H11.out.2.2.2.2.alloc (.cells #[.int .i64 v] 3)).cell
              clear cZ
              have cZ := cZa
              clear cZa
              refine Shut.out hK _ _ trivial (fun _ => ?_)
              clear hK K
              refine wpAnyH_ready (rs := [1]) (by kernel_rfl) (by simp) ?_
              refine AllReadyH.cons rfl (fun K hK => ?_) ?_
              · go_simp
                refine Shut.out hK _ _ trivial (fun _ => ?_)
                clear hK K
                refine wpAnyH_ready (rs := [5]) (by kernel_rfl) (by simp) ?_
                refine AllReadyH.cons rfl (fun K hK => ?_) ?_
                · rw [if_pos (by rfl)]
                  refine app3 (.tmp 34) (.tmp 37) w.heap.size pc k PA (parts.take k) v HO.out.2.1.symm rfl rfl HO11.out H11.out.2.1.size rfl HK1000.out ?_
                  intro A' c' W12 o12 p2 p3 p4
                  have hZ12 := p2 _ _ _ (by decide) H11.out.2.2.2.2
                  have H12 := Lib.hid (And.intro (p3 _ _ _ H11.out.1) (And.intro (p4 _ _ _ (Nat.le_refl _) H11.out.2.1) (And.intro (p2 _ _ _ (by decide) H11.out.2.2.1) (And.intro (p2 _ _ _ (by decide) H11.out.2.2.2.1) hZ12))))
                  have HO12 := Lib.hid o12
                  clear p2 p3 p4 o12 cZ
                  have cZ := hZ12.cell
                  have fZ := hZ12.frozen
                  clear hZ12
                  refine Shut.out hK _ _ trivial (fun _ => ?_)
                  clear hK K
                  refine wpAnyH_ready (rs := [6]) (by kernel_rfl) (by simp) ?_
                  refine AllReadyH.cons rfl (fun K hK => ?_) ?_
                  · go_simp
                    refine Shut.out hK _ _ trivial (fun _ => ?_)
                    clear hK K
                    refine wpAnyH_ready (rs := [7]) (by kernel_rfl) (by simp) ?_
                    refine AllReadyH.cons rfl (fun K hK => ?_) ?_
                    · have hfr := (Fr.refl W12.heap.size (fun k => k = z) W12).setCell (p := ⟨z, 15, none⟩) (.inl rfl) (.slice A' (k + 1) c')
                      have hu := upd hfr H12.out hzg nz ny hzw
                      have hz13 := H12.out.2.2.2.2.set_ 15 (.slice A' (k + 1) c')
                      have ho13 : OwnInts (W12.setCell ⟨z, 15, none⟩ (.slice A' (k + 1) c')) w.heap.size (W12.setCell ⟨z, 15, none⟩ (.slice A' (k + 1) c')).heap.size (.slice A' (k + 1) c') (parts.take (k + 1)) := by
                        rw [HO.out.2.2.1]
                        exact ⟨⟨ownsRow_far HO12.out.1.1 H12.out.2.2.2.2 (by decide), fun j hj => by simpa using HO12.out.1.2 j hj⟩, HO12.out.2⟩
                      have H13 := Lib.hid (And.intro hu.1 (And.intro hu.2.1 (And.intro hu.2.2.1 (And.intro hu.2.2.2 (And.intro hz13 ho13)))))
                      clear hu hz13 ho13 hfr
                      go_simp
                      refine Shut.out hK _ _ trivial (fun _ => ?_)
                      clear hK K
                      refine wpAnyH_done (by kernel_rfl) ?_ _
                      go_wp2_with (fail)
                      go_roundw
                      case rel => exact ⟨k + 1, A', c', by omega, by go_num, ⟨by rw [← HO.out.2.2.2]; exact H13.out.1, H13.out.2.1, H13.out.2.2.1, H13.out.2.2.2.1, H13.out.2.2.2.2.1⟩, H13.out.2.2.2.2.2⟩
                      case measure => simp [intOf]; omega
                    exact AllReadyH.nil
                  exact AllReadyH.nil
                exact AllReadyH.nil
              exact AllReadyH.nil
            exact AllReadyH.nil
          exact AllReadyH.nil
        exact AllReadyH.nil
      · have hkn : k = parts.length := by omega
        have h1 : parts.drop k = [] := by rw [hkn, List.drop_length]
        have h2 : parts.take k = parts := by rw [hkn, List.take_length]
        rw [h1] at hst
        rw [h2] at hO
        simp only [List.flatMap_nil, List.nil_append] at hst
        have HS := Lib.hid hst
        have HO := Lib.hid hO
        have HKN := Lib.hid hkn
        clear hst hO h1 h2 hkn
        go_upto_region 9 with (fail)
        have HT := Lib.hid (And.intro HS.out.1.drew (And.intro HS.out.2.1.drew (And.intro HS.out.2.2.1.drew (And.intro HS.out.2.2.2.1.drew HS.out.2.2.2.2.drew))))
        have cX0 := HT.out.2.2.1.cell 0
        go_region_held3 (fun w' => w'.cell? ⟨x, 0, none⟩ = some (.pointer (some ⟨g, 0, none⟩))) (go_keep)
          (first
           | (go_at_call 148; (with_reducible refine (HK11.out wr.drew HT.out.1).mono ?_); rintro e w13 ⟨rfl, R13, f13⟩; have H13 := Lib.hid (And.intro R13 (And.intro (FrG.trans HT.out.2.1 f13) (And.intro (HT.out.2.2.1.keep f13 hxg) (And.intro (HT.out.2.2.2.1.keep f13 hyg) (HT.out.2.2.2.2.keep f13 hzg))))); have c13 := H13.out.2.2.1.cell 0; have G13 := Lib.hid f13; clear R13 f13)
           | (go_at_call 148; (with_reducible refine (HK12.out w13 H13.out.1).mono ?_); rintro e w14 ⟨rfl, R14, f14⟩; have H14 := Lib.hid (And.intro R14 (And.intro (FrG.trans H13.out.2.1 f14) (And.intro (H13.out.2.2.1.keep f14 hxg) (And.intro (H13.out.2.2.2.1.keep f14 hyg) (H13.out.2.2.2.2.keep f14 hzg))))); have c14 := H14.out.2.2.1.cell 0; have G14 := Lib.hid f14; have cZ14 := H14.out.2.2.2.2.cell; have fZ14 := H14.out.2.2.2.2.frozen; clear R14 f14))
        have hfr := ((Fr.refl w14.heap.size (fun k => k = z) w14).setCell (p := ⟨z, 16, none⟩) (.inl rfl) (.int .i64 time)).setCell (p := ⟨z, 17, none⟩) (.inl rfl) (.int .i64 days)
        have hu := upd hfr H14.out hzg nz ny hzw
        have hZ := (H14.out.2.2.2.2.set_ 16 (.int .i64 time)).set_ 17 (.int .i64 days)
        have ho14 : OwnInts w14 w.heap.size w14.heap.size (.slice PA k pc) parts :=
          OwnInts.wider (OwnInts.fr (OwnInts.wider (OwnInts.fr (w := wr.drew) HO.out G13.out (Nat.le_refl _) (fun j h1 h2 h3 => by omega)) (Nat.le_refl _) G13.out.size) G14.out (Nat.le_refl _) (fun j h1 h2 h3 => by omega)) (Nat.le_refl _) G14.out.size
        have hoo := ownsRow_far (i := 17) (u := .int .i64 days) (ownsRow_far (i := 16) (u := .int .i64 time) ho14.1.1 H14.out.2.2.2.2 (by decide)) (H14.out.2.2.2.2.set_ 16 (.int .i64 time)) (by decide)
        have ho : OwnInts ((w14.setCell ⟨z, 16, none⟩ (.int .i64 time)).setCell ⟨z, 17, none⟩ (.int .i64 days)) w.heap.size ((w14.setCell ⟨z, 16, none⟩ (.int .i64 time)).setCell ⟨z, 17, none⟩ (.int .i64 days)).heap.size (.slice PA k pc) parts := ⟨⟨hoo, fun j hj => by simpa using ho14.1.2 j hj⟩, ho14.2⟩
        go_upto_region 10 with (fail)
        refine wp_letter (fun W => (Rem W lo g R ∧ Fr w.heap.size (fun k => k = g) w W ∧ Blk W x 187 #[.pointer (some ⟨g, 0, none⟩)] ∧ Blk W (x + 1) 81 #[.int .i64 0, .int .i64 0, .int .i64 0, .int .i64 0, .string ⟨#[]⟩, .string ⟨#[]⟩, .int .i64 0, .int .i64 0, .int .i64 0, .int .i64 0, .int .i64 0, .int .i64 0, .int .i64 0, .string ⟨#[]⟩, .int .i64 0, .slice none 0 0, .int .i64 0, .int .i64 0] ∧ Blk W z 81 (Cmd.cells { kind := kind, idn := idn, idb := idb, ids := ids, bucket := bucket, key := key, upn := upn, upb := upb, ups := ups, pbn := pbn, pbb := pbb, pbs := pbs, psize := psize, etag := etag, part := part, parts := parts, time := time, days := days } (.slice PA k pc)).toArray) ∧ OwnInts W w.heap.size W.heap.size (.slice PA k pc) parts) ⟨⟨hu.1, hu.2.1, hu.2.2.1, hu.2.2.2, hZ⟩, ho⟩ ?_
        clear hZ hfr hu ho hoo ho14 HS HO HT cX0 c13 c14 cZ14 fZ14 H13 H14 G13 G14
        rintro W5 ⟨hst, hO⟩
        have hrZ := hst.2.2.2.2.range
        have HS := Lib.hid hst
        have HO := Lib.hid hO
        obtain ⟨CS, hCS⟩ : ∃ cs, cs = Cmd.cells { kind := kind, idn := idn, idb := idb, ids := ids, bucket := bucket, key := key, upn := upn, upb := upb, ups := ups, pbn := pbn, pbb := pbb, pbs := pbs, psize := psize, etag := etag, part := part, parts := parts, time := time, days := days } (.slice PA k pc) := ⟨_, rfl⟩
        rw [← hCS] at hrZ
        have hc18 : (Tryd.prog.info? 81).map (·.size) = some CS.length := by rw [hCS]; exact cmd_info
        have hc18' : (Tryd.prog.info? 81).map (·.size) = some CS.toArray.size := by rw [hCS]; exact cmd_info
        have hold : (#[.int .i64 0, .int .i64 0, .int .i64 0, .int .i64 0, .string ⟨#[]⟩, .string ⟨#[]⟩, .int .i64 0, .int .i64 0, .int .i64 0, .int .i64 0, .int .i64 0, .int .i64 0, .int .i64 0, .string ⟨#[]⟩, .int .i64 0, .slice none 0 0, .int .i64 0, .int .i64 0] : Array Value).size = CS.toArray.size := by rw [hCS]; rfl
        have hone : CS.toArray.all (·.oneCell') = true := by rw [hCS]; exact cells_oneCell _ _ _ _
        have HCS := Lib.hid hCS
        have HKN1 := Lib.hid hrZ
        clear hst hO hCS hrZ
        go_wp2_with (first
          | ((with_reducible refine law_load 81 (.tmp 3) z 0 CS ?_ HKN1.out Tryd.underlying81 ?_ hc18 ?_); rfl; rfl)
          | ((with_reducible refine law_store_row 81 (.tmp 2) (.tmp 47) (x + 1) 81 #[.int .i64 0, .int .i64 0, .int .i64 0, .int .i64 0, .string ⟨#[]⟩, .string ⟨#[]⟩, .int .i64 0, .int .i64 0, .int .i64 0, .int .i64 0, .int .i64 0, .int .i64 0, .int .i64 0, .string ⟨#[]⟩, .int .i64 0, .slice none 0 0, .int .i64 0, .int .i64 0] CS.toArray HS.out.2.2.2.1 ?_ ?_ hc18' hold hone ?_); rfl; rfl; intro W6 hY6 hF6 hs6; have HY6 := Lib.hid (And.intro hY6 (And.intro hF6 hs6)); clear hY6 hF6 hs6)
          | fail)
        have hld := run_loadVar_mid (P := Tryd.prog) W6 (x + 1) 0 81 CS _ HY6.out.1.range Tryd.underlying81 rfl hc18
        have hend : GotCmd lo g { kind := kind, idn := idn, idb := idb, ids := ids, bucket := bucket, key := key, upn := upn, upb := upb, ups := ups, pbn := pbn, pbb := pbb, pbs := pbs, psize := psize, etag := etag, part := part, parts := parts, time := time, days := days } R w (.returned (.agg CS.toArray)) W6 := by
          rw [HCS.out]
          refine ⟨.slice PA k pc, rfl, ?_, HS.out.1.fr1 HY6.out.2.1 HS.out.2.2.2.1 (by decide) hyg, HS.out.2.1.trans (HY6.out.2.1.mono HS.out.2.1.size (fun j hj he => by omega))⟩
          exact OwnInts.wider (HO.out.frz HY6.out.2.1 HS.out.2.2.2.1 (by decide)) (Nat.le_refl _) (Nat.le_of_eq HY6.out.2.2.symm)
        have HEND := Lib.hid hend
        clear hend
        simp [go_sem] at hld
        exact bodyPost_ret (v := .agg CS.toArray) (by simp [results, Tryd.results108, go_sem, hld]) rfl HEND.out

end Go.Proofs.YtnlncfjibbdimaaDoor

