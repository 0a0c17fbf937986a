/-
  RoundAgrees: the walk.
-/
import Derived.Test.YtnlncfjibbdimaaDoorAgF13
import Derived.Test.YtnlncfjibbdimaaDoorAgI13
import Derived.Test.YtnlncfjibbdimaaDoorSameL
import Derived.Deep.CutBlock
import Derived.Deep.DeepCutAuto
namespace Go.Proofs.YtnlncfjibbdimaaDoor
open Go.RowKit
set_option linter.unusedSimpArgs false
set_option linter.unusedVariables false

theorem fill_one13 (size : Nat) (ini cells : Array Value) (v : Value) (hv : v.cells = cells) (h1 : cells.size = size) (h2 : ini.size = size) : Instr.fill (fun j => some (j * size, size)) ini [(0, v)] = some cells := by
  have hf := foldl_set cells.toList 0 ini (by simp [h1, h2])
  have hz : cells.zipIdx = (cells.toList.zipIdx 0).toArray := by rw [← Array.toList_zipIdx, Array.toArray_toList]
  simp only [Instr.fill, hv, Nat.zero_mul, Nat.zero_add]
  rw [if_neg (by simp [h1, h2]), hz, List.foldl_toArray]
  rw [hf]
  simp
theorem run_build13 {P : Program} (t e : TypeId) (i : TypeInfo) (z v : Value) (cells : Array Value) (hv : v.cells = cells) (ht : P.underlying t = some (.slice e)) (hi : P.info? e = some i) (hz : i.zero = some z)
    (hs : i.size = cells.size) (hzs : z.cells.size = cells.size) (h0 : 0 < cells.size) (hle : cells.size ≤ 16777216) (w : World) :
    (Instr.buildSlice t 1 #[(0, v)]).run P w = .ok (.slice (some ⟨w.heap.size, 0, none⟩) 1 1) (w.alloc (.cells cells e)) := by
  have hfill := fill_one13 i.size ((Array.range (1 * i.size)).map (z.cells[· % z.cells.size]!)) cells v hv hs.symm (by simp)
  have h1 : ¬ (1 * i.size > 2 ^ 24) := by omega
  have h2 : ¬ (1 * i.size = 0) := by omega
  simp only [Instr.buildSlice, Sem.run_bind, run_underlying ht, Result.andThen_ok, sizeOf, typeInfo, zeroValue]
  simp [hi, hz, newRow, show ¬ 16777216 < i.size by omega, show ¬ i.size = 0 by omega]
  rw [Nat.one_mul] at hfill
  rw [hfill]
  simp [newObj]
  rfl
theorem which13 (x : Int) {n : Nat} (hn : 0 < n) (h : n ≤ 100000) : ∃ j : Nat, j < n ∧ (wrap64 (x.tmod n + n)).tmod n = j := by
  have hn' : (0 : Int) < n := by omega
  have h1 : x.tmod n < n := Int.tmod_lt_of_pos _ hn'
  have h2 : -(n : Int) < x.tmod n := by
    have := Int.tmod_lt_of_pos (-x) hn'
    rw [Int.neg_tmod] at this
    omega
  have e : wrap64 (x.tmod n + n) = x.tmod n + n := by unfold wrap64; omega
  rw [e, Int.tmod_eq_emod_of_nonneg (by omega)]
  refine ⟨((x.tmod n + n) % n).toNat, ?_, ?_⟩
  · have := Int.emod_lt_of_pos (x.tmod n + n) hn'
    have := Int.emod_nonneg (x.tmod n + n) (show (n : Int) ≠ 0 by omega)
    omega
  · have := Int.emod_nonneg (x.tmod n + n) (show (n : Int) ≠ 0 by omega)
    omega
theorem which5 (N : Int) : ∃ j : Nat, j < 5 ∧ (wrap64 (N.tmod 5 + 5)).tmod 5 = j := by
  have := which13 N (n := 5) (by omega) (by omega)
  simpa using this

theorem row_form_cap {w : World} {base e size : Nat} {v : Value} {xs : List Value} (h : w.ownsRow base e size v 0 xs) : ∃ A c, v = .slice A 0 c ∧ c ≤ maxLen := by
  obtain ⟨A, c, h1, _, h2⟩ := row_form13 h
  exact ⟨A, c, h1, h2⟩
theorem letc_one (ps : List (Let × Value)) (h : ∀ p ∈ ps, p.2.oneCell' = true) : ∀ u ∈ letc ps, u.oneCell' = true := fun u hu => by
  obtain ⟨p, hp, hq⟩ := List.mem_flatMap.1 hu
  simp only [Let.cells, List.mem_cons, List.not_mem_nil, or_false] at hq
  rcases hq with rfl | rfl | rfl | rfl | rfl | rfl | rfl | rfl | rfl <;> first | rfl | exact h p hp
theorem LetsAt.one_ {M : Nat → Prop} {w : World} {lo : Nat} {v : Value} {ps : List (Let × Value)} (h : LetsAt M w lo v ps) : ∀ u ∈ letc ps, u.oneCell' = true := letc_one ps fun p hp => by
  obtain ⟨_, _, h1, _⟩ := h.led p hp
  obtain ⟨_, _, h2, _⟩ := h1.form
  rw [h2]
  rfl
theorem led_info13 : ∃ i z, Tryd.prog.info? 46 = some i ∧ i.zero = some z ∧ i.size = 1 ∧ i.bytes = 24 ∧ z.cells.size = 1 := by
  have h : (Tryd.prog.info? 46).map (fun i => (i.zero, i.size, i.bytes)) = some (some (.slice none 0 0), 1, 24) := by kernel_rfl
  cases hi : Tryd.prog.info? 46 with
  | none => rw [hi] at h; simp at h
  | some i =>
    rw [hi] at h
    simp only [Option.map_some, Option.some.injEq, Prod.mk.injEq] at h
    exact ⟨i, _, rfl, h.1, h.2.1, h.2.2, rfl⟩
theorem build_led13 (A : Option Addr) (n c : Nat) (w : World) : (Instr.buildSlice 39 1 #[(0, .slice A n c)]).run Tryd.prog w = .ok (.slice (some ⟨w.heap.size, 0, none⟩) 1 1) (w.alloc (.cells #[.slice A n c] 46)) := by
  obtain ⟨i, z, q1, q2, q3, q4, q5⟩ := led_info13
  exact run_build13 39 46 i z (.slice A n c) #[.slice A n c] rfl Tryd.underlying39 q1 q2 (by rw [q3]; rfl) (by rw [q5]; rfl) (by show 0 < 1; omega) (by show 1 ≤ 16777216; omega) w
/-- A step of the script. -/
structure ActR13 where
  k : Int
  who : Int
  n : Int
def ActR13.cells (o : ActR13) : List Value := [.int .i64 o.k, .int .i64 o.who, .int .i64 o.n]
def ActsAt13 (w : World) (v : Value) (os : List ActR13) : Prop :=
  ∃ A c, v = .slice A os.length c ∧ os.length ≤ c ∧ c ≤ maxLen ∧ ∀ (i : Nat) (o : ActR13), os[i]? = some o → ∃ b k, A = some ⟨b, k, none⟩ ∧ b < w.heap.size ∧ w.rangeAt b (k + i * 3) o.cells
theorem act_info13 : (Tryd.prog.info? 128).map (·.size) = some 3 := by kernel_rfl
theorem ptr_info13 (t : TypeId) (h : (Tryd.prog.info? t).map (fun i => (i.zero, i.size, i.bytes)) = some (some (.pointer none), 1, 8)) : ∃ i z, Tryd.prog.info? t = some i ∧ i.zero = some z ∧ i.size = 1 ∧ i.bytes = 8 ∧ z.cells.size = 1 := by
  cases hi : Tryd.prog.info? t with
  | none => rw [hi] at h; simp at h
  | some i =>
    rw [hi] at h
    simp only [Option.map_some, Option.some.injEq, Prod.mk.injEq] at h
    exact ⟨i, _, rfl, h.1, h.2.1, h.2.2, rfl⟩
theorem build_ptr13 {t e : TypeId} (ht : Tryd.prog.underlying t = some (.slice e)) (h : (Tryd.prog.info? e).map (fun i => (i.zero, i.size, i.bytes)) = some (some (.pointer none), 1, 8)) (G : Nat) (w : World) :
    (Instr.buildSlice t 1 #[(0, .pointer (some ⟨G, 0, none⟩))]).run Tryd.prog w = .ok (.slice (some ⟨w.heap.size, 0, none⟩) 1 1) (w.alloc (.cells #[.pointer (some ⟨G, 0, none⟩)] e)) := by
  obtain ⟨i, z, q1, q2, q3, q4, q5⟩ := ptr_info13 e h
  exact run_build13 t e i z (.pointer (some ⟨G, 0, none⟩)) #[.pointer (some ⟨G, 0, none⟩)] rfl ht q1 q2 (by rw [q3]; rfl) (by rw [q5]; rfl) (by show 0 < 1; omega) (by show 1 ≤ 16777216; omega) w
theorem rd_one13 (w : World) (u : Value) (t : TypeId) : Rd (w.alloc (.cells #[u] t)) w.heap.size (w.heap.size + 1) 1 (some ⟨w.heap.size, 0, none⟩) 1 [u] :=
  ⟨rfl, fun _ => ⟨_, rfl, Nat.le_refl _, Nat.lt_succ_self _, fun j x hx => by
    rw [Addr.add_mid, (Blk.new w t #[u]).cell, Nat.zero_add]
    rw [← hx]
    simp⟩⟩

set_option maxRecDepth 100000 in
set_option maxHeartbeats 12800000 in
theorem roundAgrees_any (N : Int) (v : Value) (os : List ActR13) (W : World) (A : Nat → Addr) (hE : E13 W A) (hS : ActsAt13 W v os) :
    Calls Tryd.prog 14 #[.int .i64 N, v] W fun e W' => e = .returned (.bool true) ∧ Below W.heap.size W W' := by
  obtain ⟨j, hj, hwj⟩ := which5 N
  have hS' := hS
  obtain ⟨D, c, rfl, hlc, hcm, hel⟩ := hS'
  obtain ⟨n0, hn0⟩ : ∃ n0, n0 = os.length := ⟨_, rfl⟩
  rw [← hn0] at hlc ⊢
  have HN0 := Lib.hid hn0
  have HEL := Lib.hid (And.intro hel hE)
  have hcm' : c ≤ 9223372036854775807 := by simpa only [maxLen] using hcm
  clear hn0 hel hS hE
  go_enter Tryd.func14, Tryd.ntmps14
  go_upto_region 3 with (first | (go_at_call 52; refine (alive13_any _ A HEL.out.2).mono ?_; rintro e w1 ⟨rfl, hb1⟩) | fail)
  go_upto_if 32 with (fail)
  go_cut [1] (fun sv wx => ∃ (os' : List ActR13) (D' : Option Addr) (c' n' : Nat), sv = .slice D' n' c' ∧ Hid (n' = os'.length) ∧ Hid (ActsAt13 W (.slice D' os'.length c') os') ∧ n' ≤ 400 ∧ n' ≤ c' ∧ wx = w1)
  case first =>
    by_cases hbig : 400 < n0
    · go_wp2_with (fail)
      go_meet
      have hn : n0 = os.length := HN0.out
      have hl : (os.take 400).length = 400 := by rw [List.length_take]; omega
      refine ⟨os.take 400, D, 400, 400, rfl, Lib.hid hl.symm, Lib.hid ⟨D, 400, by rw [hl], by omega, by simp [maxLen], fun i o ho => ?_⟩, Nat.le_refl _, Nat.le_refl _, rfl⟩
      have hi : i < 400 := by have := (List.getElem?_eq_some_iff.1 ho).1; omega
      rw [List.getElem?_take_of_lt hi] at ho
      exact HEL.out.1 i o ho
    · go_wp2_with (fail)
      go_meet
      have hn : n0 = os.length := HN0.out
      exact ⟨os, D, c, n0, rfl, Lib.hid hn, Lib.hid ⟨D, c, rfl, by omega, hcm, HEL.out.1⟩, by omega, hlc, rfl⟩
  case rest =>
    obtain ⟨os, D, c, n0, rfl, HN0, HR, hn0, hlc, rfl⟩ := hcut
    obtain ⟨n, hn⟩ : ∃ n : Nat, n = j + 1 := ⟨_, rfl⟩
    have hjn : (j : Int) + 1 = (n : Nat) := by omega
    rw [hjn]
    have hn5 : n ≤ 5 := by omega
    have hn1 : 0 < n := by omega
    clear hjn hwj hn hj
    obtain ⟨W1, hW1⟩ : ∃ W1, W1 = wc := ⟨_, rfl⟩
    rw [← hW1] at hb1 ⊢
    clear hW1
    have hbs : ∀ (G : Nat) (w : World), (Instr.buildSlice 31 1 #[(0, .pointer (some ⟨G, 0, none⟩))]).run Tryd.prog w = .ok (.slice (some ⟨w.heap.size, 0, none⟩) 1 1) (w.alloc (.cells #[.pointer (some ⟨G, 0, none⟩)] 32)) := build_ptr13 Tryd.underlying31 (by kernel_rfl)
    have hbr : ∀ (G : Nat) (w : World), (Instr.buildSlice 125 1 #[(0, .pointer (some ⟨G, 0, none⟩))]).run Tryd.prog w = .ok (.slice (some ⟨w.heap.size, 0, none⟩) 1 1) (w.alloc (.cells #[.pointer (some ⟨G, 0, none⟩)] 97)) := build_ptr13 Tryd.underlying125 (by kernel_rfl)
    have HE := Lib.hid HEL.out.2
    clear HEL
    go_wp2_with (fail)
    go_loopw [5, 6, 7] (fun av rv i wr => ∃ (k : Nat) (g gr ga : Nat → Nat) (pv : Nat → Value), k ≤ n ∧ i = .int .i64 k ∧ Hid (Made13 W n g gr ga pv k av rv wr)) (fun _ _ i _ => n - (intOf i).toNat)
    case atStart => exact ⟨0, fun _ => 0, fun _ => 0, fun _ => 0, fun _ => .slice none 0 0, Nat.zero_le _, rfl, Lib.hid (Made13.nil_ hb1)⟩
    case round =>
      obtain ⟨k, g, gr, ga, pv, hk, rfl, HM⟩ := hrel
      have hM := HM.out
      obtain ⟨Aa, ca, rfl, hka, hca⟩ := row_form13 hM.rowA
      obtain ⟨Ar, cr, rfl, hkr, hcr⟩ := row_form13 hM.rowR
      by_cases hlt : k < n
      · as_aux_lemma =>
          have hEr : E13 wr A := fun q hq => (hM.bel.cell (p := ⟨q, 0, none⟩) (World.block_lt_of_cell? W _ (HE.out q hq))).trans (HE.out q hq)
          have HX := Lib.hid (And.intro hM (And.intro hEr (And.intro hn1 hn5)))
          clear hM hEr
          go_upto_region 15 with (first
            | (go_at_call 26
               refine (new_ok2 k _ (by omega) (by omega)).mono ?_
               rintro e w2 ⟨G, rfl, hG, BG, b2⟩
               have H2 := Lib.hid (And.intro hG (And.intro BG b2))
               clear hG BG b2)
            | (go_at_call 53
               refine (newN' (a1 := A 1) ((HX.out.2.1.below H2.out.2.2) 1 (by simp)) (by omega) (by omega)).mono ?_
               rintro e w3 ⟨ga', pv', rfl, q1, q2, q3, q4, q5⟩
               have H3 := Lib.hid (And.intro q1 (And.intro q2 (And.intro q3 (And.intro q4 q5))))
               clear q1 q2 q3 q4 q5)
            | fail)
          obtain ⟨i1, z1, hi1, hz11, hz12, hz13, hz14⟩ := ptr_info13 32 (by kernel_rfl)
          obtain ⟨i2, z2, hi2, hz21, hz22, hz23, hz24⟩ := ptr_info13 97 (by kernel_rfl)
          have hMd := HX.out.1
          have b23 : Below wr.heap.size wr w3 := H2.out.2.2.trans (H3.out.2.2.2.2.mono H2.out.2.2.size)
          have rA3 := ownsRow_frS hMd.rowA (Fr.of_below b23 (fun _ => False)) (Nat.le_refl _) (fun _ _ h => h)
          have rR3 := ownsRow_frS hMd.rowR (Fr.of_below b23 (fun _ => False)) (Nat.le_refl _) (fun _ _ h => h)
          have hWs : W.heap.size ≤ w3.heap.size := Nat.le_trans hMd.bel.size b23.size
          have H4 := Lib.hid (And.intro b23 (And.intro rA3 (And.intro rR3 hWs)))
          clear b23 rA3 rR3 hMd hWs
          go_wp2_with (first
            | (at_builtin
               refine wpList_append_any (w3.alloc (.cells #[.pointer (some ⟨G, 0, none⟩)] 32)) rfl (.tmp 72) (.tmp 74) 31 rfl W.heap.size 32 i1 z1 1 8 Tryd.underlying31 hi1 hz11 hz12 hz13 hz14 (by decide) (.slice Aa k ca) k (ptrs g k) rfl (H4.out.2.1.alloc _) w3.heap.size (w3.heap.size + 1) (some ⟨w3.heap.size, 0, none⟩) 1 1 [.pointer (some ⟨G, 0, none⟩)] rfl (rd_one13 w3 _ 32) (by simp [Value.oneCell']) (by simp only [maxLen]; omega) (by omega) (by simp; have := H4.out.2.2.2; omega) ?_
               intro v4 w4 hown4 hg4 hat4
               have f4 : Fr w3.heap.size (fun q => (Value.slice Aa k ca).ownBlock = some q) w3 w4 := ((Fr.refl _ _ w3).alloc (Nat.le_refl _) (.cells #[.pointer (some ⟨G, 0, none⟩)] 32)).grown hg4 (by simp) (fun q hq => .inl hq)
               have rR4 := ownsRow_frS H4.out.2.2.1 f4 (Nat.le_refl _) (fun q hq e => by
                 obtain ⟨_, h1⟩ := own_blk14 H4.out.2.2.1 hq
                 obtain ⟨_, h2⟩ := own_blk14 H4.out.2.1 e
                 exact blk_ne13 h1 h2 (by decide) rfl)
               obtain ⟨A4, c4, rfl, hk4, hc4⟩ := row_form13 hown4
               have H5 := Lib.hid (And.intro f4 (And.intro hown4 rR4))
               clear hown4 hg4 hat4 f4 rR4)
            | (at_builtin
               refine wpList_append_any (w4.alloc (.cells #[.pointer (some ⟨ga' + 1, 0, none⟩)] 97)) rfl (.tmp 76) (.tmp 78) 125 rfl W.heap.size 97 i2 z2 1 8 Tryd.underlying125 hi2 hz21 hz22 hz23 hz24 (by decide) (.slice Ar k cr) k (ptrs gr k) rfl (H5.out.2.2.alloc _) w4.heap.size (w4.heap.size + 1) (some ⟨w4.heap.size, 0, none⟩) 1 1 [.pointer (some ⟨ga' + 1, 0, none⟩)] rfl (rd_one13 w4 _ 97) (by simp [Value.oneCell']) (by simp only [maxLen]; omega) (by omega) (by simp; have := H4.out.2.2.2; have := H5.out.1.size; omega) ?_
               intro v5 w5 hown5 hg5 hat5
               have f5 : Fr w4.heap.size (fun q => (Value.slice Ar k cr).ownBlock = some q) w4 w5 := ((Fr.refl _ _ w4).alloc (Nat.le_refl _) (.cells #[.pointer (some ⟨ga' + 1, 0, none⟩)] 97)).grown hg5 (by simp) (fun q hq => .inl hq)
               have rA5 := ownsRow_frS H5.out.2.1 f5 (Nat.le_refl _) (fun q hq e => by
                 obtain ⟨_, h1⟩ := own_blk14 H5.out.2.1 hq
                 obtain ⟨_, h2⟩ := own_blk14 H5.out.2.2 e
                 exact blk_ne13 h1 h2 (by decide) rfl)
               obtain ⟨A5, c5, rfl, hk5, hc5⟩ := row_form13 hown5
               have H6 := Lib.hid (And.intro f5 (And.intro rA5 hown5))
               clear hown5 hg5 hat5 f5 rA5)
            | fail)
          refine ⟨⟨k + 1, upd g k G, upd gr k (ga' + 1), upd ga k ga', upd pv k pv', by omega, by go_num, Lib.hid ?_⟩, by simp [intOf]; omega⟩
          have q3 := H3.out.2.2.1
          have hs2 := H2.out.2.2.size
          have q1 := H3.out.1
          refine HX.out.1.step (w3 := w3) H4.out.1 H2.out.1 (by omega) (by omega) (H2.out.2.1.below H3.out.2.2.2.2 H2.out.2.1.lt) q3.row q3.ans ?_ ((H5.out.1.mono (Nat.le_refl _) (fun q _ e => .inl e)).trans (H6.out.1.mono H5.out.1.size (fun q _ e => .inr e))) H6.out.2.1 H6.out.2.2
          obtain ⟨⟨hr, _⟩, _⟩ := H3.out.2.2.2.1
          exact row_form_cap hr
      · have hkn : n = k := by omega
        subst hkn
        have HMd := Lib.hid hM
        clear hM
        go_upto_region 18 with (fail)
        have bS : Below wr.heap.size wr ((wr.alloc (.cells #[] 131)).alloc (.cells #[] 46)) := ((Below.refl _ _).alloc (Nat.le_refl _) _).alloc (by simp) _
        obtain ⟨M0, Aa', Ar', ca', cr', e1, e2, hA0⟩ := HMd.out.start (A := A) HE.out ⟨hn1, by omega⟩ (Lv := .slice (some ⟨wr.heap.size, 0, none⟩) 0 0) (Dv := .slice (some ⟨wr.heap.size + 1, 0, none⟩) 0 0) bS ((World.ownsRow_made wr #[] 0 (Nat.le_refl _) (by simp [maxLen]) (by simp)).alloc _)
          (by have := World.ownsRow_made (base := wr.heap.size) (e := 46) (size := 1) (wr.alloc (.cells #[] 131)) #[] 0 (by simp) (by simp [maxLen]) (by simp); rw [World.size_alloc] at this; exact this)
        obtain ⟨rfl, rfl⟩ : Aa = Aa' ∧ ca = ca' := by injection e1 with a _ b; exact ⟨a, b⟩
        obtain ⟨rfl, rfl⟩ : Ar = Ar' ∧ cr = cr' := by injection e2 with a _ b; exact ⟨a, b⟩
        refine wp_letter (fun W3 => ∃ B, AgrL W B n g gr ga pv A Aa Ar 0 (.slice (some ⟨wr.heap.size, 0, none⟩) 0 0) (.slice (some ⟨wr.heap.size + 1, 0, none⟩) 0 0) W3) ⟨_, _, _, _, _, _, _, _, _, _, hA0, Nat.zero_le _, Nat.zero_le _⟩ ?_
        clear hA0 bS e1 e2 HMd HE hbs hbr
        rintro W3 ⟨B, hA3⟩
        obtain ⟨lb, hlb⟩ : ∃ lb, lb = wr.heap.size := ⟨_, rfl⟩
        obtain ⟨db, hdb⟩ : ∃ db, db = wr.heap.size + 1 := ⟨_, rfl⟩
        rw [← hdb, ← hlb] at hA3
        rw [← hdb, ← hlb]
        have H3 := Lib.hid hA3
        clear hA3 hlb hdb
        go_wp2_with (fail)
        go_loopw [12, 13, 84] (fun Lv Dv i w' => ∃ k : Nat, k ≤ n0 ∧ i = .int .i64 k ∧ Hid (AgrL W B n g gr ga pv A Aa Ar k Lv Dv w')) (fun _ _ i _ => n0 - (intOf i).toNat)
        case atStart => exact ⟨0, Nat.zero_le _, rfl, Lib.hid H3.out⟩
        case round =>
          obtain ⟨k, hk, rfl, HA⟩ := hrel
          obtain ⟨M, s, R, F, v, ls, lv, ps, ds, hA, hpl, hdl⟩ := HA.out
          clear HA
          obtain ⟨Al, cl, rfl, hl1, hl2⟩ := row_form13 hA.lets.row
          obtain ⟨Ad, cd, rfl, hd1, hd2⟩ := row_form13 hA.dons.row
          obtain ⟨nl, hnl⟩ : ∃ nl, nl = ps.length := ⟨_, rfl⟩
          obtain ⟨nd, hnd⟩ : ∃ nd, nd = ds.length := ⟨_, rfl⟩
          rw [← hnl, ← hnd] at hA ⊢
          have hl1' : nl ≤ cl := by omega
          have hd1' : nd ≤ cd := by omega
          have hl63 : cl ≤ 9223372036854775807 := by simpa only [maxLen] using hl2
          have hd63 : cd ≤ 9223372036854775807 := by simpa only [maxLen] using hd2
          have hnl2 : nl ≤ 2000 := by omega
          have hnd2 : nd ≤ 400 := by omega
          have HL := Lib.hid (And.intro hA (And.intro hnl (And.intro hnd (And.intro hpl hdl))))
          clear hA hnl hnd hpl hdl hl1 hl2 hd1 hd2
          by_cases hlt : k < n0
          · have hko : k < os.length := by rw [← HN0.out]; exact hlt
            obtain ⟨o, ho⟩ : ∃ o, os[k]? = some o := ⟨_, List.getElem?_eq_getElem hko⟩
            obtain ⟨D', c', hv', _, _, hel⟩ := HR.out
            obtain ⟨b0, o0, hD, hb0, hr0⟩ := hel k o ho
            obtain rfl : D = D' := by injection hv'
            subst hD
            obtain ⟨kd, who, num⟩ := o
            have hrO : wr.rangeAt b0 (o0 + k * 3) [.int .i64 kd, .int .i64 who, .int .i64 num] := fun j u hu => (HL.out.1.core.bel.cell (p := ⟨b0, o0 + k * 3 + j, none⟩) hb0).trans (hr0 j u hu)
            clear hel hr0 ho hko hv'
            go_upto_region 21 with (first
              | ((with_reducible refine law_load 128 (.tmp 86) b0 (o0 + k * 3) [.int .i64 kd, .int .i64 who, .int .i64 num] ?_ hrO Tryd.underlying128 ?_ ?_ ?_); rfl; rfl; exact act_info13)
              | ((with_reducible refine law_store_fresh 128 (.tmp 15) (.tmp 87) wr 128 _ #[.int .i64 kd, .int .i64 who, .int .i64 num] ?_ ?_ rfl ?_ ?_ ?_ ?_); rfl; rfl; exact act_info13; rfl; rfl)
              | fail)
            refine wp_letter (fun W4 => Below wr.heap.size wr W4 ∧ Blk W4 wr.heap.size 128 #[.int .i64 kd, .int .i64 who, .int .i64 num]) ⟨(Below.refl _ _).alloc (Nat.le_refl _) _, Blk.new _ _ _⟩ ?_
            clear hrO
            rintro W4 ⟨b4, X4⟩
            obtain ⟨x, hx⟩ : ∃ x, x = wr.heap.size := ⟨_, rfl⟩
            rw [← hx] at X4
            rw [← hx]
            clear hx
            obtain ⟨i0, hi0, hwi⟩ := which13 who hn1 (by omega)
            have hin : (i0 : Int) < n := by omega
            have hnn : ¬ (n : Int) = 0 := by omega
            have cX := X4.cell
            have hA4 := HL.out.1.below b4
            obtain ⟨bA, oA, rfl, _, _, _⟩ := hA4.core.as_.at_ hi0
            obtain ⟨bR, oR, rfl, _, _, _⟩ := hA4.core.rs.at_ hi0
            by_cases hk0 : kd = 0
            · as_aux_lemma =>
                subst hk0
                have H4 := Lib.hid (And.intro hA4 X4)
                clear hA4 X4 b4
                go_upto_region 23 with (fail)
                have hd0 := And.intro (H4.out.1.below (Below.refl W4.heap.size W4).drew) trivial
                have HS := Lib.hid (show ∀ u, (∃ M' s' R' F' v' ls' lv' Lv' ps', Agr W M' u B n g gr ga s' R' F' v' ls' pv lv' A (some ⟨bA, oA, none⟩) (some ⟨bR, oR, none⟩) Lv' (.slice Ad nd cd) ps' ds) → u.cell? ⟨bA, oA + i0, none⟩ = some (.pointer (some ⟨g i0, 0, none⟩)) ∧ u.cell? ⟨bR, oR + i0, none⟩ = some (.pointer (some ⟨gr i0, 0, none⟩)) from
                  fun u ⟨_, _, _, _, _, _, _, _, _, h⟩ => ⟨h.core.as_.cellj hi0, h.core.rs.cellj hi0⟩)
                have hS0 := HS.out _ ⟨_, _, _, _, _, _, _, _, _, hd0.1⟩
                refine wp_region_held_drew (S := (fun u => u.cell? ⟨bA, oA + i0, none⟩ = some (.pointer (some ⟨g i0, 0, none⟩)) ∧ u.cell? ⟨bR, oR + i0, none⟩ = some (.pointer (some ⟨gr i0, 0, none⟩)))) (by kernel_rfl) hS0 (fun _ => ?_)
                refine wpAnyH_take (i := 0) (v := .slice Al nl cl) rfl (by kernel_rfl) (by kernel_rfl) (by kernel_rfl) (fun _ _ _ h => h) (Or.inl ⟨by kernel_rfl, fun w' hSw => ?_⟩) hS0 ?_
                · go_simp
                try simp only [List.getElem_toArray, List.getElem_cons_succ, List.getElem_cons_zero, Act.put, List.setIfInBounds_toArray, List.set_cons_zero, List.set_cons_succ]
                refine wpAnyH_take (i := 1) (v := .slice (some ⟨bA, oA, none⟩) n ca) rfl (by kernel_rfl) (by kernel_rfl) (by kernel_rfl) (fun _ _ _ h => h) (Or.inl ⟨by kernel_rfl, fun w' hSw => ?_⟩) hS0 ?_
                · go_simp
                try simp only [List.getElem_toArray, List.getElem_cons_succ, List.getElem_cons_zero, Act.put, List.setIfInBounds_toArray, List.set_cons_zero, List.set_cons_succ]
                refine wpAnyH_take (i := 2) (v := .int .i64 i0) rfl (by kernel_rfl) (by kernel_rfl) (by kernel_rfl) (fun _ _ _ h => h) (Or.inl ⟨by kernel_rfl, fun w' hSw => ?_⟩) hS0 ?_
                · go_simp
                try simp only [List.getElem_toArray, List.getElem_cons_succ, List.getElem_cons_zero, Act.put, List.setIfInBounds_toArray, List.set_cons_zero, List.set_cons_succ]
                refine wpAnyH_take (i := 3) (v := .pointer (some ⟨bA, oA + i0, none⟩)) rfl (by kernel_rfl) (by kernel_rfl) (by kernel_rfl) (fun _ _ _ h => h) (Or.inl ⟨by kernel_rfl, fun w' hSw => ?_⟩) hS0 ?_
                · go_simp
                try simp only [List.getElem_toArray, List.getElem_cons_succ, List.getElem_cons_zero, Act.put, List.setIfInBounds_toArray, List.set_cons_zero, List.set_cons_succ]
                refine wpAnyH_take (i := 4) (v := .pointer (some ⟨g i0, 0, none⟩)) rfl (by kernel_rfl) (by kernel_rfl) (by kernel_rfl) (fun _ _ _ h => h) (Or.inl ⟨by kernel_rfl, fun w' hSw => ?_⟩) hS0 ?_
                · (have hcv := hSw.1; go_simp)
                try simp only [List.getElem_toArray, List.getElem_cons_succ, List.getElem_cons_zero, Act.put, List.setIfInBounds_toArray, List.set_cons_zero, List.set_cons_succ]
                refine wpAnyH_take (i := 5) (v := .slice (some ⟨bR, oR, none⟩) n cr) rfl (by kernel_rfl) (by kernel_rfl) (by kernel_rfl) (fun _ _ _ h => h) (Or.inl ⟨by kernel_rfl, fun w' hSw => ?_⟩) hS0 ?_
                · go_simp
                try simp only [List.getElem_toArray, List.getElem_cons_succ, List.getElem_cons_zero, Act.put, List.setIfInBounds_toArray, List.set_cons_zero, List.set_cons_succ]
                refine wpAnyH_take (i := 6) (v := .int .i64 i0) rfl (by kernel_rfl) (by kernel_rfl) (by kernel_rfl) (fun _ _ _ h => h) (Or.inl ⟨by kernel_rfl, fun w' hSw => ?_⟩) hS0 ?_
                · go_simp
                try simp only [List.getElem_toArray, List.getElem_cons_succ, List.getElem_cons_zero, Act.put, List.setIfInBounds_toArray, List.set_cons_zero, List.set_cons_succ]
                refine wpAnyH_take (i := 7) (v := .pointer (some ⟨bR, oR + i0, none⟩)) rfl (by kernel_rfl) (by kernel_rfl) (by kernel_rfl) (fun _ _ _ h => h) (Or.inl ⟨by kernel_rfl, fun w' hSw => ?_⟩) hS0 ?_
                · go_simp
                try simp only [List.getElem_toArray, List.getElem_cons_succ, List.getElem_cons_zero, Act.put, List.setIfInBounds_toArray, List.set_cons_zero, List.set_cons_succ]
                refine wpAnyH_take (i := 8) (v := .pointer (some ⟨gr i0, 0, none⟩)) rfl (by kernel_rfl) (by kernel_rfl) (by kernel_rfl) (fun _ _ _ h => h) (Or.inl ⟨by kernel_rfl, fun w' hSw => ?_⟩) hS0 ?_
                · (have hcv := hSw.2; go_simp)
                try simp only [List.getElem_toArray, List.getElem_cons_succ, List.getElem_cons_zero, Act.put, List.setIfInBounds_toArray, List.set_cons_zero, List.set_cons_succ]
                refine wpAnyH_take (i := 9) (v := .int .i64 i0) rfl (by kernel_rfl) (by kernel_rfl) (by kernel_rfl) (fun _ _ _ h => h) (Or.inl ⟨by kernel_rfl, fun w' hSw => ?_⟩) hS0 ?_
                · go_simp
                try simp only [List.getElem_toArray, List.getElem_cons_succ, List.getElem_cons_zero, Act.put, List.setIfInBounds_toArray, List.set_cons_zero, List.set_cons_succ]
                refine wpAnyH_ready (rs := [10]) (by kernel_rfl) (by simp) ?_
                refine AllReadyH.cons rfl (fun K hK => ?_) AllReadyH.nil
                go_simp
                refine (hd0.1.begins hi0).mono ?_
                rintro e u1 ⟨v1, ps1, s1, R1, F1, vt1, ls1, lv1, rfl, L1, hA1, hsub1, hlen1⟩
                have hS1 := HS.out _ ⟨_, _, _, _, _, _, _, _, _, hA1⟩
                refine Shut.out hK _ _ hS1 (fun _ => ?_)
                clear hK K
                try simp only [List.getElem_toArray, List.getElem_cons_succ, List.getElem_cons_zero, Act.put, List.setIfInBounds_toArray, List.set_cons_zero, List.set_cons_succ]
                obtain ⟨A1, c1, rfl, hc11, hc12, hrd1⟩ := ownsRow_rd L1.row
                obtain ⟨i1, z1, hi1, hz11, hz12, hz13, hz14⟩ := let_info'
                have hrw : u1.ownsRow W.heap.size 131 9 (.slice Al nl cl) nl (letc ps) := by have h := hA1.lets.row; rw [← HL.out.2.1] at h; exact h
                obtain ⟨v', u2, hrun, hown, hgrow, hat⟩ := run_append_any (P := Tryd.prog) u1 W.heap.size 126 126 131 i1 z1 9 80 Tryd.underlying126 hi1 hz11 hz12 hz13 hz14 (by omega) (.slice Al nl cl) nl (letc ps) hrw _ _ A1 ps1.length c1 (letc ps1) hrd1 L1.one_ (by simp only [maxLen]; omega) (by omega) hA1.core.bel.size
                obtain ⟨M2, hA2⟩ := hA1.send (fun p hp => ⟨L1.led p hp, hsub1 p hp⟩) (by rw [← HL.out.2.1]; exact hown) hgrow hat
                obtain ⟨A2, c2, rfl, hk2, hc2⟩ := row_form13 hown
                have hS2 := HS.out _ ⟨_, _, _, _, _, _, _, _, _, hA2⟩
                refine wpAnyH_ready (rs := [11]) (by kernel_rfl) (by simp) ?_
                refine AllReadyH.cons rfl (fun K hK => ?_) AllReadyH.nil
                rw [if_pos (by kernel_rfl)]
                refine wp_append13 (.tmp 99) (.tmp 109) _ _ _ rfl rfl rfl rfl hrun ?_
                refine Shut.out hK _ _ hS2 (fun _ => ?_)
                clear hK K
                try simp only [List.getElem_toArray, List.getElem_cons_succ, List.getElem_cons_zero, Act.put, List.setIfInBounds_toArray, List.set_cons_zero, List.set_cons_succ]
                refine wpAnyH_take (i := 12) (v := .slice A2 (nl + ps1.length) c2) rfl (by kernel_rfl) (by kernel_rfl) (by kernel_rfl) (fun _ _ _ h => h) (Or.inl ⟨by kernel_rfl, fun w' hSw => ?_⟩) hS2 ?_
                · go_simp
                try simp only [List.getElem_toArray, List.getElem_cons_succ, List.getElem_cons_zero, Act.put, List.setIfInBounds_toArray, List.set_cons_zero, List.set_cons_succ]
                refine wpAnyH_done (by kernel_rfl) ?_ _
                go_wp2_with (fail)
                refine ⟨⟨k + 1, by omega, by go_num, Lib.hid ⟨_, _, _, _, _, _, _, _, _, hA2, ?_, by have := HL.out.2.2.2.2; omega⟩⟩, by simp [intOf]; omega⟩
                rw [List.length_append]
                have := HL.out.2.2.2.1
                omega
            · by_cases h1 : nl = 0
              · have H4 := Lib.hid hA4
                clear hA4 X4 b4
                subst h1
                go_wp2_with (fail)
                refine ⟨⟨k + 1, by omega, by go_num, Lib.hid ⟨_, _, _, _, _, _, _, _, _, H4.out, by have := HL.out.2.2.2.1; omega, by have := HL.out.2.2.2.2; omega⟩⟩, by simp [intOf]; omega⟩
              by_cases h2 : kd < 0
              · have H4 := Lib.hid hA4
                clear hA4 X4 b4
                have h1' : ¬ (nl : Int) = 0 := by omega
                go_wp2_with (fail)
                refine ⟨⟨k + 1, by omega, by go_num, Lib.hid ⟨_, _, _, _, _, _, _, _, _, H4.out, by have := HL.out.2.2.2.1; omega, by have := HL.out.2.2.2.2; omega⟩⟩, by simp [intOf]; omega⟩
              by_cases h3 : 3 < kd
              · have H4 := Lib.hid hA4
                clear hA4 X4 b4
                have h1' : ¬ (nl : Int) = 0 := by omega
                go_wp2_with (fail)
                refine ⟨⟨k + 1, by omega, by go_num, Lib.hid ⟨_, _, _, _, _, _, _, _, _, H4.out, by have := HL.out.2.2.2.1; omega, by have := HL.out.2.2.2.2; omega⟩⟩, by simp [intOf]; omega⟩
              have h1' : ¬ (nl : Int) = 0 := by omega
              obtain ⟨at_, hat, hwat⟩ := which13 num (n := nl) (by omega) (by omega)
              have hlin : (at_ : Int) < nl := by omega
              have hat' : at_ < ps.length := by rw [← HL.out.2.1]; exact hat
              obtain ⟨⟨⟨lw, lt, tl, an, ⟨b1, b2⟩, ⟨c1, c2⟩, led⟩, ov⟩, hp⟩ : ∃ p, ps[at_]? = some p := ⟨_, List.getElem?_eq_getElem hat'⟩
              have hpm := List.mem_of_getElem? hp
              obtain ⟨A3, n3, c3, rfl⟩ : ∃ A3 n3 c3, ov = .slice A3 n3 c3 := by
                obtain ⟨_, _, h1, _⟩ := hA4.lets.led _ hpm
                obtain ⟨_, _, h2, _⟩ := h1.form
                exact ⟨_, _, _, h2⟩
              obtain ⟨q, cap, hLv, hrL⟩ := hA4.lets.at_ hp
              obtain rfl : Al = some ⟨q, 0, none⟩ := by injection hLv
              simp only [Let.cells] at hrL
              have HW := Lib.hid (And.intro hp (And.intro hpm hat'))
              have H4 := Lib.hid (And.intro hA4 X4)
              clear hA4 X4 b4 hp hpm hLv hat'
              go_upto_region 27 with (first
                | ((with_reducible refine law_load 131 (.tmp 137) q (at_ * 9) [.int .i64 lw, .int .i64 lt, .bool tl, .bool an, .int .i64 b1, .int .i64 b2, .int .i64 c1, .int .i64 c2, .slice A3 n3 c3] ?_ hrL Tryd.underlying131 ?_ ?_ ?_); rfl; rfl; exact let_info)
                | ((with_reducible refine law_store_fresh 131 (.tmp 18) (.tmp 138) W4 131 _ #[.int .i64 lw, .int .i64 lt, .bool tl, .bool an, .int .i64 b1, .int .i64 b2, .int .i64 c1, .int .i64 c2, .slice A3 n3 c3] ?_ ?_ rfl ?_ ?_ ?_ ?_); rfl; rfl; exact let_info; rfl; rfl)
                | fail)
              refine wp_letter (fun W5 => Below W4.heap.size W4 W5 ∧ Blk W5 W4.heap.size 131 #[.int .i64 lw, .int .i64 lt, .bool tl, .bool an, .int .i64 b1, .int .i64 b2, .int .i64 c1, .int .i64 c2, .slice A3 n3 c3]) ⟨(Below.refl _ _).alloc (Nat.le_refl _) _, Blk.new _ _ _⟩ ?_
              clear hrL cX
              rintro W5 ⟨b5, Z5⟩
              obtain ⟨z, hz⟩ : ∃ z, z = W4.heap.size := ⟨_, rfl⟩
              rw [← hz] at Z5
              rw [← hz]
              clear hz
              have hA5 := H4.out.1.below b5
              have X5 := H4.out.2.below b5 H4.out.2.lt
              have cX := X5.cell
              have hrZ : W5.rangeAt z 0 [.int .i64 lw, .int .i64 lt, .bool tl, .bool an, .int .i64 b1, .int .i64 b2, .int .i64 c1, .int .i64 c2, .slice A3 n3 c3] := Z5.range
              have hlw : lw < n := (hA5.core.sys.letters _ (hA5.lets.sub _ HW.out.2.1)).1
              have H5 := Lib.hid (And.intro hA5 (And.intro X5 Z5))
              clear hA5 X5 Z5 b5
              obtain ⟨i1, z1, hi1, hz11, hz12, hz13, hz14⟩ := let_info'
              by_cases hk3 : kd = 3
              · as_aux_lemma =>
                  subst hk3
                  by_cases h300 : nl < 300
                  · go_wp2_with (first
                      | ((with_reducible refine law_load 131 (.tmp 18) z 0 [.int .i64 lw, .int .i64 lt, .bool tl, .bool an, .int .i64 b1, .int .i64 b2, .int .i64 c1, .int .i64 c2, .slice A3 n3 c3] ?_ hrZ Tryd.underlying131 ?_ ?_ ?_); rfl; rfl; exact let_info)
                      | ((with_reducible refine law_buildSlice1 126 131 (.tmp 146) i1 z1 #[.int .i64 lw, .int .i64 lt, .bool tl, .bool an, .int .i64 b1, .int .i64 b2, .int .i64 c1, .int .i64 c2, .slice A3 n3 c3] 9 ?_ Tryd.underlying126 hi1 hz11 hz12 hz14 ?_ (by decide) (by decide) ?_); rfl; rfl)
                      | (at_builtin
                         refine wpList_append_any (W5.alloc (.cells #[.int .i64 lw, .int .i64 lt, .bool tl, .bool an, .int .i64 b1, .int .i64 b2, .int .i64 c1, .int .i64 c2, .slice A3 n3 c3] 131)) rfl (.tmp 145) (.tmp 147) 126 rfl W.heap.size 131 i1 z1 9 80 Tryd.underlying126 hi1 hz11 hz12 hz13 hz14 (by decide) (.slice (some ⟨q, 0, none⟩) nl cl) nl (letc ps) rfl (by have h := H5.out.1.lets.row; rw [← HL.out.2.1] at h; exact h.alloc _) 0 (W5.heap.size + 1) (some ⟨W5.heap.size, 0, none⟩) 1 1 [.int .i64 lw, .int .i64 lt, .bool tl, .bool an, .int .i64 b1, .int .i64 b2, .int .i64 c1, .int .i64 c2, .slice A3 n3 c3] rfl ⟨rfl, fun _ => ⟨_, rfl, Nat.zero_le _, Nat.lt_succ_self _, fun m u hu => by
                           rw [Addr.add_mid]
                           exact (Blk.new W5 131 #[.int .i64 lw, .int .i64 lt, .bool tl, .bool an, .int .i64 b1, .int .i64 b2, .int .i64 c1, .int .i64 c2, .slice A3 n3 c3]).range (cs := [.int .i64 lw, .int .i64 lt, .bool tl, .bool an, .int .i64 b1, .int .i64 b2, .int .i64 c1, .int .i64 c2, .slice A3 n3 c3]) m u hu⟩⟩ (by simp [Value.oneCell']) (by simp only [maxLen]; omega) (by omega) (by have := H5.out.1.core.bel.size; simp; omega) ?_
                         intro v6 w6 hown6 hg6 hat6
                         obtain ⟨A6, c6, rfl, hk6, hc6⟩ := row_form13 hown6
                         have H6 := Lib.hid (And.intro hown6 (And.intro hg6 hat6))
                         clear hown6 hg6 hat6)
                      | fail)
                    have bZ : Below W5.heap.size W5 (W5.alloc (.cells #[.int .i64 lw, .int .i64 lt, .bool tl, .bool an, .int .i64 b1, .int .i64 b2, .int .i64 c1, .int .i64 c2, .slice A3 n3 c3] 131)) := (Below.refl _ _).alloc (Nat.le_refl _) _
                    obtain ⟨M6, hA6⟩ := (H5.out.1.below bZ).send (ps' := [(⟨lw, lt, tl, an, (b1, b2), (c1, c2), led⟩, .slice A3 n3 c3)]) (fun p hp => by
                      rw [List.mem_singleton] at hp
                      subst hp
                      exact ⟨(H5.out.1.below bZ).lets.led _ HW.out.2.1, H5.out.1.lets.sub _ HW.out.2.1⟩) (by rw [← HL.out.2.1]; simpa [letc, Let.cells] using H6.out.1) H6.out.2.1 H6.out.2.2
                    refine ⟨⟨k + 1, by omega, by go_num, Lib.hid ⟨_, _, _, _, _, _, _, _, _, hA6, by have := HL.out.2.2.2.1; simp; omega, by have := HL.out.2.2.2.2; omega⟩⟩, by simp [intOf]; omega⟩
                  · go_wp2_with (fail)
                    refine ⟨⟨k + 1, by omega, by go_num, Lib.hid ⟨_, _, _, _, _, _, _, _, _, H5.out.1, by have := HL.out.2.2.2.1; omega, by have := HL.out.2.2.2.2; omega⟩⟩, by simp [intOf]; omega⟩
              go_upto_region 30 with (fail)
              obtain ⟨Aq, hAq⟩ : ∃ Aq, Aq = (if cl = at_ + 1 then (some ⟨q, 0, none⟩ : Option Addr) else some ⟨q, (at_ + 1) * 9, none⟩) := ⟨_, rfl⟩
              have HAQ := Lib.hid hAq
              clear hAq
              have hS0 : (fun (_ : World) => True) W5.drew := trivial
              refine wp_region_held_drew (S := fun _ => True) (by kernel_rfl) hS0 (fun _ => ?_)
              refine wpAnyH_take (i := 1) (v := .slice (some ⟨q, 0, none⟩) nl cl) rfl (by kernel_rfl) (by kernel_rfl) (by kernel_rfl) (fun _ _ _ h => h) (Or.inl ⟨by kernel_rfl, fun w' hSw => ?_⟩) hS0 ?_
              · go_simp
              try simp only [List.getElem_toArray, List.getElem_cons_succ, List.getElem_cons_zero, Act.put, List.setIfInBounds_toArray, List.set_cons_zero, List.set_cons_succ]
              refine wpAnyH_take (i := 2) (v := .int .i64 at_) rfl (by kernel_rfl) (by kernel_rfl) (by kernel_rfl) (fun _ _ _ h => h) (Or.inl ⟨by kernel_rfl, fun w' hSw => ?_⟩) hS0 ?_
              · go_simp
              try simp only [List.getElem_toArray, List.getElem_cons_succ, List.getElem_cons_zero, Act.put, List.setIfInBounds_toArray, List.set_cons_zero, List.set_cons_succ]
              refine wpAnyH_take (i := 3) (v := .slice (some ⟨q, 0, none⟩) at_ cl) rfl (by kernel_rfl) (by kernel_rfl) (by kernel_rfl) (fun _ _ _ h => h) (Or.inl ⟨by kernel_rfl, fun w' hSw => ?_⟩) hS0 ?_
              · (go_simp; intro h; omega)
              try simp only [List.getElem_toArray, List.getElem_cons_succ, List.getElem_cons_zero, Act.put, List.setIfInBounds_toArray, List.set_cons_zero, List.set_cons_succ]
              refine wpAnyH_take (i := 5) (v := .slice (some ⟨q, 0, none⟩) nl cl) rfl (by kernel_rfl) (by kernel_rfl) (by kernel_rfl) (fun _ _ _ h => h) (Or.inl ⟨by kernel_rfl, fun w' hSw => ?_⟩) hS0 ?_
              · go_simp
              try simp only [List.getElem_toArray, List.getElem_cons_succ, List.getElem_cons_zero, Act.put, List.setIfInBounds_toArray, List.set_cons_zero, List.set_cons_succ]
              refine wpAnyH_take (i := 6) (v := .int .i64 at_) rfl (by kernel_rfl) (by kernel_rfl) (by kernel_rfl) (fun _ _ _ h => h) (Or.inl ⟨by kernel_rfl, fun w' hSw => ?_⟩) hS0 ?_
              · go_simp
              try simp only [List.getElem_toArray, List.getElem_cons_succ, List.getElem_cons_zero, Act.put, List.setIfInBounds_toArray, List.set_cons_zero, List.set_cons_succ]
              refine wpAnyH_take (i := 7) (v := .int .i64 (at_ + 1 : Nat)) rfl (by kernel_rfl) (by kernel_rfl) (by kernel_rfl) (fun _ _ _ h => h) (Or.inl ⟨by kernel_rfl, fun w' hSw => ?_⟩) hS0 ?_
              · (go_simp; rw [IntKind.wrap_i64]; omega)
              try simp only [List.getElem_toArray, List.getElem_cons_succ, List.getElem_cons_zero, Act.put, List.setIfInBounds_toArray, List.set_cons_zero, List.set_cons_succ]
              refine wpAnyH_take (i := 8) (v := .slice Aq (nl - (at_ + 1)) (cl - (at_ + 1))) rfl (by kernel_rfl) (by kernel_rfl) (by kernel_rfl) (fun _ _ _ h => h) (Or.inl ⟨by kernel_rfl, fun w' hSw => ?_⟩) hS0 ?_
              · (go_simp; rw [if_pos ⟨by omega, by omega⟩, ← HAQ.out])
              try simp only [List.getElem_toArray, List.getElem_cons_succ, List.getElem_cons_zero, Act.put, List.setIfInBounds_toArray, List.set_cons_zero, List.set_cons_succ]
              have bd : Below W5.heap.size W5 W5.drew := (Below.refl _ _).drew
              have b0 : Below W5.heap.size W5 (W5.drew.alloc (.cells #[] 131)) := bd.alloc bd.size _
              refine wpAnyH_ready (rs := [0]) (by kernel_rfl) (by simp) ?_
              refine AllReadyH.cons rfl (fun K hK => ?_) AllReadyH.nil
              rw [if_pos (by kernel_rfl)]
              go_simp
              refine Shut.out hK _ _ trivial (fun _ => ?_)
              clear hK K
              try simp only [List.getElem_toArray, List.getElem_cons_succ, List.getElem_cons_zero, Act.put, List.setIfInBounds_toArray, List.set_cons_zero, List.set_cons_succ]
              have hA6 := H5.out.1.below b0
              have rd1 := hA6.lets.take_rd (k := at_) HL.out.2.1 hat
              obtain ⟨v6, u6, hrun6, hown6, hg6, hat6⟩ := run_append_any (P := Tryd.prog) (W5.drew.alloc (.cells #[] 131)) W5.heap.size 126 126 131 i1 z1 9 80 Tryd.underlying126 hi1 hz11 hz12 hz13 hz14 (by omega) (.slice (some ⟨W5.drew.heap.size, 0, none⟩) 0 0) 0 [] (World.ownsRow_made W5.drew #[] 0 bd.size (by simp [maxLen]) (by simp)) _ _ (some ⟨q, 0, none⟩) at_ cl (letc (ps.take at_)) rd1 (hA6.lets.one_ (fun p hp => List.mem_of_mem_take hp)) (by simp only [maxLen]; omega) (by omega) b0.size
              have b6 : Below W5.heap.size W5 u6 := b0.grown hg6 b0.size (fun m hm => by simp [Value.ownBlock] at hm; have := bd.size; omega)
              refine wpAnyH_ready (rs := [4]) (by kernel_rfl) (by simp) ?_
              refine AllReadyH.cons rfl (fun K hK => ?_) AllReadyH.nil
              rw [if_pos (by kernel_rfl)]
              refine wp_append13 (.tmp 149) (.tmp 152) _ _ _ rfl rfl rfl rfl hrun6 ?_
              refine Shut.out hK _ _ trivial (fun _ => ?_)
              clear hK K
              try simp only [List.getElem_toArray, List.getElem_cons_succ, List.getElem_cons_zero, Act.put, List.setIfInBounds_toArray, List.set_cons_zero, List.set_cons_succ]
              have hA7 := H5.out.1.below b6
              have rd2 := hA7.lets.drop_rd (k := at_) HL.out.2.1 hat
              rw [← HAQ.out] at rd2
              obtain ⟨v7, u7, hrun7, hown7, hg7, hat7⟩ := run_append_any (P := Tryd.prog) u6 W5.heap.size 126 126 131 i1 z1 9 80 Tryd.underlying126 hi1 hz11 hz12 hz13 hz14 (by omega) v6 (0 + at_) ([] ++ letc (ps.take at_)) hown6 _ _ Aq (nl - (at_ + 1)) (cl - (at_ + 1)) (letc (ps.drop (at_ + 1))) rd2 (hA7.lets.one_ (fun p hp => List.mem_of_mem_drop hp)) (by simp only [maxLen]; omega) (by omega) b6.size
              have b7 : Below W5.heap.size W5 u7 := b6.grown hg7 b6.size (fun m hm => (hown6.lt m hm).1)
              have hlt7 : ∀ m, v7.ownBlock = some m → W5.heap.size ≤ m := fun m hm => (hown7.lt m hm).1
              obtain ⟨m7, hm7⟩ : ∃ m7, m7 = 0 + at_ + (nl - (at_ + 1)) := ⟨_, rfl⟩
              obtain ⟨ps7, hps7⟩ : ∃ ps7, ps7 = ps.take at_ ++ ps.drop (at_ + 1) := ⟨_, rfl⟩
              have hl7 : ps7.length = m7 := by rw [hps7, hm7, List.length_append, List.length_take, List.length_drop, ← HL.out.2.1]; omega
              have hlc7 : [] ++ letc (ps.take at_) ++ letc (ps.drop (at_ + 1)) = letc ps7 := by rw [hps7, letc_append]; rfl
              rw [hlc7, ← hm7] at hown7
              obtain ⟨M7, hA8, hM7⟩ := H5.out.1.drop (ps' := ps7) b7 (fun p hp => by rw [hps7] at hp; exact (List.mem_append.1 hp).elim List.mem_of_mem_take List.mem_of_mem_drop) (by rw [hl7]; exact hown7)
              obtain ⟨A7, c7, rfl, hk7, hc7⟩ := row_form13 hown7
              have hm7' : m7 ≤ nl := by omega
              have hlrun : ps7.length = m7 := hl7
              have H7 := Lib.hid (And.intro hA8 (And.intro b7 (And.intro hl7 (And.intro hlt7 hM7))))
              clear hm7 hps7 hlc7 hown7 hown6 hA6 hA7 rd1 rd2 hA8 b7 hl7 hlt7 hM7 hg6 hat6 hg7 hat7 b6 b0 bd hlrun
              refine wpAnyH_ready (rs := [9]) (by kernel_rfl) (by simp) ?_
              refine AllReadyH.cons rfl (fun K hK => ?_) AllReadyH.nil
              rw [if_pos (by kernel_rfl)]
              refine wp_append13 (.tmp 153) (.tmp 157) _ _ _ rfl rfl rfl rfl hrun7 ?_
              refine Shut.out hK _ _ trivial (fun _ => ?_)
              clear hK K
              try simp only [List.getElem_toArray, List.getElem_cons_succ, List.getElem_cons_zero, Act.put, List.setIfInBounds_toArray, List.set_cons_zero, List.set_cons_succ]
              clear hrun6 hrun7
              refine wpAnyH_take (i := 10) (v := .slice A7 m7 c7) rfl (by kernel_rfl) (by kernel_rfl) (by kernel_rfl) (fun _ _ _ h => h) (Or.inl ⟨by kernel_rfl, fun w' hSw => ?_⟩) hS0 ?_
              · go_simp
              try simp only [List.getElem_toArray, List.getElem_cons_succ, List.getElem_cons_zero, Act.put, List.setIfInBounds_toArray, List.set_cons_zero, List.set_cons_succ]
              refine wpAnyH_done (by kernel_rfl) ?_ _
              clear cX hrZ hS0
              have X7 : Blk u7 x 128 #[.int .i64 kd, .int .i64 who, .int .i64 num] := H5.out.2.1.below H7.out.2.1 H5.out.2.1.lt
              have Z7 : Blk u7 z 131 #[.int .i64 lw, .int .i64 lt, .bool tl, .bool an, .int .i64 b1, .int .i64 b2, .int .i64 c1, .int .i64 c2, .slice A3 n3 c3] := H5.out.2.2.below H7.out.2.1 H5.out.2.2.lt
              have cX := X7.cell
              have cZ := Z7.cell
              have hzl : z < W5.heap.size := H5.out.2.2.lt
              have hOz : ¬ NetO n g gr ga z := H5.out.1.core.net.notRow' H5.out.2.2
              clear X7
              by_cases hk2 : kd = 2
              · as_aux_lemma =>
                  subst hk2
                  clear Z7 cZ
                  go_wp2_with (fail)
                  refine ⟨⟨k + 1, by omega, by go_num, Lib.hid ⟨_, _, _, _, _, _, _, _, _, H7.out.1, by have := HL.out.2.2.2.1; have := HL.out.2.1; have := H7.out.2.2.1; omega, by have := HL.out.2.2.2.2; omega⟩⟩, by simp [intOf]; omega⟩
              have hcR : u7.cell? ⟨bR, oR + lw, none⟩ = some (.pointer (some ⟨gr lw, 0, none⟩)) := H7.out.1.core.rs.cellj hlw
              have hlwn : (lw : Int) < n := by omega
              have k56 := (H7.out.1.core.net.rnds lw hlw).stage
              obtain ⟨was, hwas⟩ : ∃ was, was = (R lw).stage := ⟨_, rfl⟩
              rw [← hwas] at k56
              have hl5 : ⟨lw, lt, tl, an, (b1, b2), (c1, c2), led⟩ ∈ ls := H5.out.1.lets.sub _ HW.out.2.1
              have hL5 : Lf M W5 (.slice A3 n3 c3) led := H5.out.1.lets.led _ HW.out.2.1
              have H8 := Lib.hid (And.intro k56 (And.intro hl5 (And.intro hL5 Z7)))
              clear k56 hwas hl5 hL5 Z7
              go_upto_region 33 with (first
                | (go_at_call 56
                   refine H8.out.1.mono ?_
                   rintro e u8 ⟨rfl, b8⟩
                   have HB8 := Lib.hid b8
                   clear b8)
                | fail)
              have b58 : Below W5.heap.size W5 u8 := H7.out.2.1.trans (HB8.out.mono H7.out.2.1.size)
              have hA8 := H7.out.1.below HB8.out
              have Z8 : Blk u8 z 131 #[.int .i64 lw, .int .i64 lt, .bool tl, .bool an, .int .i64 b1, .int .i64 b2, .int .i64 c1, .int .i64 c2, .slice A3 n3 c3] := H8.out.2.2.2.below HB8.out H8.out.2.2.2.lt
              have hrZ : u8.rangeAt z 0 [.int .i64 lw, .int .i64 lt, .bool tl, .bool an, .int .i64 b1, .int .i64 b2, .int .i64 c1, .int .i64 c2, .slice A3 n3 c3] := Z8.range
              have k68 := hA8.deliver (l := ⟨lw, lt, tl, an, (b1, b2), (c1, c2), led⟩) (ov := .slice A3 n3 c3) H8.out.2.1 (H8.out.2.2.1.below' b58 H5.out.1.core.lt H7.out.2.2.2.2) ca cr
              simp only [Let.cells] at k68
              have H9 := Lib.hid (And.intro k68 (And.intro b58 Z8))
              clear k68 b58 Z8 hA8 hcR cZ
              go_upto_region 34 with (first
                | ((with_reducible refine law_load 131 (.tmp 18) z 0 [.int .i64 lw, .int .i64 lt, .bool tl, .bool an, .int .i64 b1, .int .i64 b2, .int .i64 c1, .int .i64 c2, .slice A3 n3 c3] ?_ hrZ Tryd.underlying131 ?_ ?_ ?_); rfl; rfl; exact let_info)
                | (go_at_call 68
                   refine H9.out.1.mono ?_
                   rintro e u9 ⟨v9, ps9, s9, R9, F9, vt9, ls9, lv9, rfl, L9, hA9, hsub9, hlen9, F9'⟩
                   obtain ⟨A9, c9, rfl, hc91, hc92, hrd9⟩ := ownsRow_rd L9.row
                   obtain ⟨n9, hn9⟩ : ∃ n9, n9 = ps9.length := ⟨_, rfl⟩
                   rw [← hn9] at hrd9 hlen9
                   have hrw9 : u9.ownsRow W.heap.size 131 9 (.slice A7 m7 c7) m7 (letc ps7) := by have h := hA9.lets.row; rw [H7.out.2.2.1] at h; exact h
                   have H10 := Lib.hid (And.intro L9 (And.intro hA9 (And.intro hsub9 (And.intro hlen9 (And.intro F9' (And.intro hrd9 (And.intro hrw9 hn9)))))))
                   clear L9 hA9 hsub9 F9' hrd9 hrw9 hc91 hc92
                   rw [← hn9]
                   clear hn9)
                | (at_builtin
                   refine wpList_append_any u9 rfl (.tmp 168) (.tmp 172) 126 rfl W.heap.size 131 i1 z1 9 80 Tryd.underlying126 hi1 hz11 hz12 hz13 hz14 (by decide) (.slice A7 m7 c7) m7 (letc ps7) rfl H10.out.2.2.2.2.2.2.1 _ _ A9 n9 c9 (letc ps9) rfl H10.out.2.2.2.2.2.1 H10.out.1.one_ (by simp only [maxLen]; omega) (by omega) H10.out.2.1.core.bel.size ?_
                   intro va ua howna hga hata
                   obtain ⟨Aa2, ca2, rfl, hka2, hca2⟩ := row_form13 howna
                   have H11 := Lib.hid (And.intro howna (And.intro hga hata))
                   clear howna hga hata)
                | fail)
              obtain ⟨M12, hA12⟩ := H10.out.2.1.send (ps' := ps9) (fun p hp => ⟨H10.out.1.led p hp, H10.out.2.2.1 p hp⟩) (by rw [H7.out.2.2.1, ← H10.out.2.2.2.2.2.2.2]; exact H11.out.1) H11.out.2.1 H11.out.2.2
              have Z12 : Blk ua z 131 #[.int .i64 lw, .int .i64 lt, .bool tl, .bool an, .int .i64 b1, .int .i64 b2, .int .i64 c1, .int .i64 c2, .slice A3 n3 c3] := by
                have h1 : Blk u9 z 131 #[.int .i64 lw, .int .i64 lt, .bool tl, .bool an, .int .i64 b1, .int .i64 b2, .int .i64 c1, .int .i64 c2, .slice A3 n3 c3] := H9.out.2.2.fr H10.out.2.2.2.2.1 H9.out.2.2.lt hOz
                have f : Fr u9.heap.size (fun m => (Value.slice A7 m7 c7).ownBlock = some m) u9 ua := (Fr.refl _ _ u9).grown H11.out.2.1 (Nat.le_refl _) (fun m hm => .inl hm)
                exact h1.fr f h1.lt (fun hm => by have := H7.out.2.2.2.1 z hm; omega)
              have hcR : ua.cell? ⟨bR, oR + lw, none⟩ = some (.pointer (some ⟨gr lw, 0, none⟩)) := hA12.core.rs.cellj hlw
              have cZ := Z12.cell
              have k56 := (hA12.core.net.rnds lw hlw).stage
              obtain ⟨st, hst⟩ : ∃ st, st = (R9 lw).stage := ⟨_, rfl⟩
              rw [← hst] at k56
              have hlen12 : (ps7 ++ ps9).length ≤ 5 * (k + 1) := by
                rw [List.length_append, H7.out.2.2.1, ← H10.out.2.2.2.2.2.2.2]
                have := HL.out.2.2.2.1
                have := HL.out.2.1
                omega
              have H12 := Lib.hid (And.intro hA12 (And.intro Z12 (And.intro k56 (And.intro hlen12 hst))))
              clear hA12 Z12 k56 hlen12 hst hrZ
              by_cases hs3 : st = 3
              case neg =>
                as_aux_lemma =>
                  go_wp2_with (first | (go_at_call 56; refine H12.out.2.2.1.mono ?_; rintro e ub ⟨rfl, bb⟩; have HBB := Lib.hid bb; clear bb) | fail)
                  refine ⟨⟨k + 1, by omega, by go_num, Lib.hid ⟨_, _, _, _, _, _, _, _, _, H12.out.1.below HBB.out, H12.out.2.2.2.1, by have := HL.out.2.2.2.2; omega⟩⟩, by simp [intOf]; omega⟩
              by_cases hw3 : was = 3
              · as_aux_lemma =>
                  subst hs3 hw3
                  go_wp2_with (first | (go_at_call 56; refine H12.out.2.2.1.mono ?_; rintro e ub ⟨rfl, bb⟩; have HBB := Lib.hid bb; clear bb) | fail)
                  refine ⟨⟨k + 1, by omega, by go_num, Lib.hid ⟨_, _, _, _, _, _, _, _, _, H12.out.1.below HBB.out, H12.out.2.2.2.1, by have := HL.out.2.2.2.2; omega⟩⟩, by simp [intOf]; omega⟩
              subst hs3
              go_upto_region 35 with (first | (go_at_call 56; refine H12.out.2.2.1.mono ?_; rintro e ub ⟨rfl, bb⟩; have HBB := Lib.hid bb; clear bb) | fail)
              have hAb := H12.out.1.below HBB.out
              have Zb := H12.out.2.1.below HBB.out H12.out.2.1.lt
              have hcR : ub.cell? ⟨bR, oR + lw, none⟩ = some (.pointer (some ⟨gr lw, 0, none⟩)) := hAb.core.rs.cellj hlw
              have cZ := Zb.cell
              have k60 := (hAb.core.net.rnds lw hlw).ledger
              obtain ⟨hd1, hd2, hd3⟩ := hAb.core.done hlw H12.out.2.2.2.2.symm
              rw [hd2] at k60
              have HBb := Lib.hid (And.intro hAb (And.intro Zb (And.intro k60 (And.intro hd1 hd3))))
              clear hAb Zb k60 hd1 hd2 hd3
              go_upto_region 36 with (first
                | (go_at_call 60
                   refine HBb.out.2.2.1.mono ?_
                   rintro e uc ⟨vc, rfl, oc, bc⟩
                   obtain ⟨Ac, cc, hvc, _⟩ := oc.at_.form
                   obtain ⟨nc, hnc⟩ : ∃ nc, nc = (R9 lw).led.length := ⟨_, rfl⟩
                   rw [← hnc] at hvc
                   subst hvc
                   have HC := Lib.hid (And.intro oc bc)
                   clear oc bc hnc)
                | fail)
              have hAc := HBb.out.1.below HC.out.2
              have Zc := HBb.out.2.1.below HC.out.2 HBb.out.2.1.lt
              have hLc : Lf M12 uc (.slice Ac nc cc) (R9 lw).led := Lf.own13 HC.out.1 (Nat.le_refl _) (HBb.out.1.core.lt)
              have HD := Lib.hid (And.intro hAc (And.intro Zc hLc))
              clear hAc Zc hLc hcR cZ
              go_wp2_with (fail)
              go_loopw [193] (fun i wi => ∃ k2 : Nat, k2 ≤ nd ∧ i = .int .i64 k2 ∧ Below uc.heap.size uc wi) (fun i _ => nd - (intOf i).toNat)
              case atStart => exact ⟨0, Nat.zero_le _, rfl, Below.refl _ _⟩
              case round =>
                obtain ⟨k2, hk2', rfl, bi⟩ := hrel
                by_cases hlt2 : k2 < nd
                · have hkd : k2 < ds.length := by rw [← HL.out.2.2.1]; exact hlt2
                  obtain ⟨⟨dl, dv⟩, hdk⟩ : ∃ d, ds[k2]? = some d := ⟨_, List.getElem?_eq_getElem hkd⟩
                  have hAi := HD.out.1.below bi
                  obtain ⟨qd, capd, hDv, hcd⟩ := hAi.dons.at_ hdk
                  obtain rfl : Ad = some ⟨qd, 0, none⟩ := by injection hDv
                  have hdm := List.mem_of_getElem? hdk
                  obtain ⟨lo1, hi1', q1, q2, _⟩ := hAi.dons.led _ hdm
                  obtain ⟨lo2, hi2', p1, p2, _⟩ := HD.out.2.2.below bi
                  obtain ⟨Ad2, cd2, hdv, hdl1, hdl2, _⟩ := q1.form
                  simp only at hdv
                  subst hdv
                  have hag := (hAi.dons.don _ hdm).agree HBb.out.2.2.2.1 hAi.core.sys
                  obtain ⟨nd2, hnd2'⟩ : ∃ nd2, nd2 = dl.length := ⟨_, rfl⟩
                  simp only [← hnd2'] at q1 hcd
                  clear hDv hdm hdl1 hdl2 hdk hkd hnd2'
                  by_cases hpre : dl <+: (R9 lw).led
                  · as_aux_lemma =>
                      have k1 := begins_any wr lo1 hi1' lo2 hi2' _ _ dl (R9 lw).led q1 p1 q2 p2
                      rw [tf_iff.2 hpre] at k1
                      have HK := Lib.hid (And.intro k1 bi)
                      clear k1 bi hAi q1 p1 q2 p2 hag hpre
                      go_wp2_with (first | (go_at_call 69; refine HK.out.1.mono ?_; rintro e ux ⟨rfl, bx⟩; have HX1 := Lib.hid bx; clear bx) | fail)
                      go_roundw
                      case rel => exact ⟨k2 + 1, by omega, by go_num, HK.out.2.trans (HX1.out.mono HK.out.2.size)⟩
                      case measure => simp [intOf]; omega
                  · as_aux_lemma =>
                      have hpre2 : (R9 lw).led <+: dl := hag.resolve_left hpre
                      have k1 := begins_any wr lo1 hi1' lo2 hi2' _ _ dl (R9 lw).led q1 p1 q2 p2
                      rw [tf_false hpre] at k1
                      have k2c : ∀ ux, Below wr.heap.size wr ux → Calls Tryd.prog 69 #[.slice Ac nc cc, .slice Ad2 nd2 cd2] ux (YesNo true ux) := fun ux b => by
                        have := begins_any ux lo2 hi2' lo1 hi1' _ _ (R9 lw).led dl (p1.fr (Fr.of_below b (fun _ => False)) p2 (fun _ _ _ h => h)) (q1.fr (Fr.of_below b (fun _ => False)) q2 (fun _ _ _ h => h)) (Nat.le_trans p2 b.size) (Nat.le_trans q2 b.size)
                        rw [tf_iff.2 hpre2] at this
                        exact this
                      have HK := Lib.hid (And.intro k1 (And.intro bi k2c))
                      clear k1 bi hAi q1 p1 q2 p2 hag hpre hpre2 k2c
                      go_wp2_with (first
                        | (go_at_call 69; (with_reducible refine HK.out.1.mono ?_); rintro e ux ⟨rfl, bx⟩; have HX1 := Lib.hid bx; clear bx)
                        | (go_at_call 69; refine (HK.out.2.2 _ HX1.out).mono ?_; rintro e uy ⟨rfl, bx⟩; have HX2 := Lib.hid bx; clear bx)
                        | fail)
                      go_roundw
                      case rel => exact ⟨k2 + 1, by omega, by go_num, HK.out.2.1.trans ((HX1.out.trans (HX2.out.mono HX1.out.size)).mono HK.out.2.1.size)⟩
                      case measure => simp [intOf]; omega
                · have hk2n : nd = k2 := by omega
                  subst hk2n
                  have hAi := HD.out.1.below bi
                  have Zi := HD.out.2.1.below bi HD.out.2.1.lt
                  have hLi := HD.out.2.2.below bi
                  have hcR : wr.cell? ⟨bR, oR + lw, none⟩ = some (.pointer (some ⟨gr lw, 0, none⟩)) := hAi.core.rs.cellj hlw
                  have cZ := Zi.cell
                  obtain ⟨i4, z4, hi4, hz41, hz42, hz43, hz44⟩ := led_info13
                  have hb39 := build_led13 Ac nc cc
                  by_cases hl3 : lw = 3
                  · as_aux_lemma =>
                      have HI := Lib.hid (And.intro hAi hLi)
                      clear hAi Zi hLi bi
                      subst hl3
                      go_upto_region 44 with (fail)
                      have hAe := HI.out.1
                      have hLe := HI.out.2
                      have hrow := hAe.dons.row
                      rw [← HL.out.2.2.1] at hrow
                      have hWe := hAe.core.bel.size
                      have HE2 := Lib.hid (And.intro hAe (And.intro hLe (And.intro hrow (And.intro hWe HBb.out.2.2.2.1))))
                      clear hAe hLe hrow hWe cZ
                      go_wp2_with (first
                        | (at_builtin
                           refine wpList_append_any (wr.alloc (.cells #[.slice Ac nc cc] 46)) rfl (.tmp 220) (.tmp 222) 39 rfl W.heap.size 46 i4 z4 1 24 Tryd.underlying39 hi4 hz41 hz42 hz43 hz44 (by decide) (.slice Ad nd cd) nd (ds.map (·.2)) rfl (HE2.out.2.2.1.alloc _) wr.heap.size (wr.heap.size + 1) (some ⟨wr.heap.size, 0, none⟩) 1 1 [.slice Ac nc cc] rfl (rd_one13 wr _ 46) (by simp [Value.oneCell']) (by simp only [maxLen]; omega) (by omega) (by simp; have := HE2.out.2.2.2.1; omega) ?_
                           intro ve we howne hge hate
                           obtain ⟨Ae, ce, rfl, hke, hce⟩ := row_form13 howne
                           have HF := Lib.hid (And.intro howne (And.intro hge hate))
                           clear howne hge hate)
                        | fail)
                      have bZ : Below wr.heap.size wr (wr.alloc (.cells #[.slice Ac nc cc] 46)) := (Below.refl _ _).alloc (Nat.le_refl _) _
                      obtain ⟨M14, hA14⟩ := (HE2.out.1.below bZ).done (HE2.out.2.1.below bZ) HE2.out.2.2.2.2 (by rw [← HL.out.2.2.1]; exact HF.out.1) HF.out.2.1 HF.out.2.2
                      refine ⟨⟨k + 1, by omega, by go_num, Lib.hid ⟨_, _, _, _, _, _, _, _, _, hA14, H12.out.2.2.2.1, by have := HL.out.2.2.2.2; simp; omega⟩⟩, by simp [intOf]; omega⟩
                  · as_aux_lemma =>
                      have hl3' : ¬ (lw : Int) = 3 := by omega
                      have k61 := (hAi.core.net.rnds lw hlw).place (A 10) (hAi.core.e13 10 (by simp))
                      have hpl := HBb.out.2.2.2.2 hl3
                      obtain ⟨pl, hple⟩ : ∃ pl, pl = (R9 lw).place := ⟨_, rfl⟩
                      rw [← hple] at k61 hpl
                      have HI := Lib.hid (And.intro hAi (And.intro hLi k61))
                      clear hAi Zi hLi bi k61 hple
                      go_upto_region 44 with (first | (go_at_call 61; refine HI.out.2.2.mono ?_; rintro e ud ⟨rfl, bd2⟩; have HBd := Lib.hid bd2; clear bd2) | fail)
                      have hAe := HI.out.1.below HBd.out
                      have hLe := HI.out.2.1.below HBd.out
                      have hrow := hAe.dons.row
                      rw [← HL.out.2.2.1] at hrow
                      have hWe := hAe.core.bel.size
                      have HE2 := Lib.hid (And.intro hAe (And.intro hLe (And.intro hrow (And.intro hWe HBb.out.2.2.2.1))))
                      clear hAe hLe hrow hWe cZ
                      go_wp2_with (first
                        | (at_builtin
                           refine wpList_append_any (ud.alloc (.cells #[.slice Ac nc cc] 46)) rfl (.tmp 220) (.tmp 222) 39 rfl W.heap.size 46 i4 z4 1 24 Tryd.underlying39 hi4 hz41 hz42 hz43 hz44 (by decide) (.slice Ad nd cd) nd (ds.map (·.2)) rfl (HE2.out.2.2.1.alloc _) ud.heap.size (ud.heap.size + 1) (some ⟨ud.heap.size, 0, none⟩) 1 1 [.slice Ac nc cc] rfl (rd_one13 ud _ 46) (by simp [Value.oneCell']) (by simp only [maxLen]; omega) (by omega) (by simp; have := HE2.out.2.2.2.1; omega) ?_
                           intro ve we howne hge hate
                           obtain ⟨Ae, ce, rfl, hke, hce⟩ := row_form13 howne
                           have HF := Lib.hid (And.intro howne (And.intro hge hate))
                           clear howne hge hate)
                        | fail)
                      have bZ : Below ud.heap.size ud (ud.alloc (.cells #[.slice Ac nc cc] 46)) := (Below.refl _ _).alloc (Nat.le_refl _) _
                      obtain ⟨M14, hA14⟩ := (HE2.out.1.below bZ).done (HE2.out.2.1.below bZ) HE2.out.2.2.2.2 (by rw [← HL.out.2.2.1]; exact HF.out.1) HF.out.2.1 HF.out.2.2
                      refine ⟨⟨k + 1, by omega, by go_num, Lib.hid ⟨_, _, _, _, _, _, _, _, _, hA14, H12.out.2.2.2.1, by have := HL.out.2.2.2.2; simp; omega⟩⟩, by simp [intOf]; omega⟩
          · have HE2 := Lib.hid (HL.out.1.core.bel)
            go_wp2_with (fail)
            go_ret
            exact ⟨rfl, HE2.out⟩
end Go.Proofs.YtnlncfjibbdimaaDoor
