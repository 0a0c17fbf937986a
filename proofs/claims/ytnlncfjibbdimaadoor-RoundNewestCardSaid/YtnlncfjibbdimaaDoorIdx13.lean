/-
  ledger.index: where the first command with an id stands.
-/
import Derived.Test.YtnlncfjibbdimaaDoorCopy
import Derived.Test.YtnlncfjibbdimaaDoorSame
import Derived.Test.YtnlncfjibbdimaaDoorEqAgg
import Derived.Test.YtnlncfjibbdimaaDoorLaws
namespace Go.Proofs.YtnlncfjibbdimaaDoor
open Go.RowKit
set_option linter.unusedSimpArgs false
set_option linter.unusedVariables false

/-- Has a command this id? -/
def idB (c : Cmd) (a b d : Int) : Bool := eq3 c.idn c.idb c.ids a b d
/-- Where the first command with an id stands; -1: there is none. -/
def idxN (l : List Cmd) (a b d : Int) : Int := match l.findIdx? (fun c => idB c a b d) with
  | some i => i
  | none => -1
theorem idxN_some {l : List Cmd} {a b d : Int} {k : Nat} {c : Cmd} (hc : l[k]? = some c) (h : idB c a b d = true) (hall : ∀ c ∈ l.take k, idB c a b d = false) : idxN l a b d = k := by
  obtain ⟨hk, he⟩ := List.getElem?_eq_some_iff.1 hc
  have : l.findIdx? (fun c => idB c a b d) = some k := by
    rw [List.findIdx?_eq_some_iff_getElem]
    refine ⟨hk, by rw [he]; exact h, fun j hj => ?_⟩
    simp [hall l[j] (List.mem_take_iff_getElem.2 ⟨j, by omega, rfl⟩)]
  unfold idxN
  rw [this]
theorem idxN_none {l : List Cmd} {a b d : Int} (hall : ∀ c ∈ l, idB c a b d = false) : idxN l a b d = -1 := by
  have : l.findIdx? (fun c => idB c a b d) = none := by
    rw [List.findIdx?_eq_none_iff]
    exact hall
  unfold idxN
  rw [this]

set_option maxRecDepth 100000 in
set_option maxHeartbeats 800000 in
theorem idx169 (c : Cmd) (pv : Value) (x : Nat) (a b d : Int) (w : World) (hX : Blk w x 74 #[.int .i64 a, .int .i64 b, .int .i64 d]) :
    Calls Tryd.prog 169 #[.agg (c.cells pv).toArray, .pointer (some ⟨x, 0, none⟩)] w (YesNo (idB c a b d) w) := by
  have hY := Blk.new w 81 (c.cells pv).toArray
  have c1 : (w.alloc (.cells (c.cells pv).toArray 81)).cell? ⟨w.heap.size, 1, none⟩ = some (.int .i64 c.idn) := hY.cell 1
  have c2 : (w.alloc (.cells (c.cells pv).toArray 81)).cell? ⟨w.heap.size, 2, none⟩ = some (.int .i64 c.idb) := hY.cell 2
  have c3 : (w.alloc (.cells (c.cells pv).toArray 81)).cell? ⟨w.heap.size, 3, none⟩ = some (.int .i64 c.ids) := hY.cell 3
  have hX' := hX.alloc (.cells (c.cells pv).toArray 81)
  have d0 := hX'.cell 0
  have d1 := hX'.cell 1
  have d2 := hX'.cell 2
  have he := eq74 c.idn c.idb c.ids a b d
  have hb := Lib.hid ((Below.refl w.heap.size w).alloc (Nat.le_refl _) (.cells (c.cells pv).toArray 81))
  clear hX hX' hY
  go_enter Tryd.func169, Tryd.ntmps169
  go_wp2_with (fail)
  go_ret
  exact ⟨rfl, hb.out⟩

set_option maxRecDepth 100000 in
set_option maxHeartbeats 1600000 in
theorem idx168 (w : World) (lo hi : Nat) (v : Value) (l : List Cmd) (h : LedAt w lo hi v l) (hhi : hi ≤ w.heap.size) (x : Nat) (a b d : Int) (hX : Blk w x 74 #[.int .i64 a, .int .i64 b, .int .i64 d]) :
    Calls Tryd.prog 168 #[v, .func (.func 169) #[] #[.pointer (some ⟨x, 0, none⟩)]] w fun e w' => e = .returned (.int .i64 (idxN l a b d)) ∧ Below w.heap.size w w' := by
  obtain ⟨A, cap, rfl, hl, hc, hb⟩ := h.form
  obtain ⟨n, hn⟩ : ∃ n, n = l.length := ⟨_, rfl⟩
  have HL := Lib.hid (And.intro h (And.intro hhi (And.intro hn hX)))
  rw [← hn] at hl hb ⊢
  have hm : n ≤ 9223372036854775807 := by simp only [maxLen] at hc; omega
  clear h hhi hn hX hc
  go_enter Tryd.func168, Tryd.ntmps168
  go_wp2_with (fail)
  go_loopw [8] (fun i wr => ∃ k : Nat, k ≤ n ∧ i = .int .i64 k ∧ Hid (Below w.heap.size w wr ∧ ∀ c ∈ l.take k, idB c a b d = false)) (fun i _ => n - (intOf i).toNat)
  case atStart => exact ⟨0, Nat.zero_le _, rfl, Lib.hid ⟨Below.refl _ _, by simp⟩⟩
  case round =>
    obtain ⟨k, hk, rfl, HR⟩ := hrel
    by_cases hlt : (k : Int) < n
    · have hk' : k < l.length := by rw [← HL.out.2.2.1]; omega
      have hlk := List.getElem?_eq_getElem hk'
      have hL := HL.out.1
      rw [← HL.out.2.2.1] at hL
      obtain ⟨bb, o, pv, rfl, hlo, hhi', hr0, hparts⟩ := hL.range hlk
      obtain ⟨c, hcc⟩ : ∃ c, c = l[k] := ⟨_, rfl⟩
      rw [← hcc] at hr0 hparts hlk
      have hrange : wr.rangeAt bb (o + k * 18) (c.cells pv) := rangeAt_fr hr0 (Fr.of_below HR.out.1 (fun _ => False)) (by have := HL.out.2.1; omega) (fun h => h)
      have k169 := idx169 c pv x a b d wr (HL.out.2.2.2.below HR.out.1 HL.out.2.2.2.lt)
      have HLK := Lib.hid hlk
      clear hL hr0 hparts hlk hcc
      cases hid : idB c a b d with
      | true =>
        rw [hid] at k169
        have HK := Lib.hid (And.intro k169 hid)
        clear k169 hid
        go_wp2_with (first
          | ((with_reducible refine law_load 81 (.tmp 14) bb (o + k * 18) (c.cells pv) ?_ hrange Tryd.underlying81 ?_ ?_ ?_); rfl; rfl; exact cmd_info)
          | (go_at_call 169; refine HK.out.1.mono ?_; rintro e w2 ⟨rfl, b2⟩; have H2 := Lib.hid b2; clear b2)
          | fail)
        go_ret
        exact ⟨ret_int (idxN_some HLK.out HK.out.2 HR.out.2).symm, HR.out.1.trans (H2.out.mono HR.out.1.size)⟩
      | false =>
        rw [hid] at k169
        have HK := Lib.hid (And.intro k169 hid)
        clear k169 hid
        go_wp2_with (first
          | ((with_reducible refine law_load 81 (.tmp 14) bb (o + k * 18) (c.cells pv) ?_ hrange Tryd.underlying81 ?_ ?_ ?_); rfl; rfl; exact cmd_info)
          | (go_at_call 169; refine HK.out.1.mono ?_; rintro e w2 ⟨rfl, b2⟩; have H2 := Lib.hid b2; clear b2)
          | fail)
        go_roundw
        case rel => exact ⟨k + 1, by omega, by go_num, Lib.hid ⟨HR.out.1.trans (H2.out.mono HR.out.1.size), fun d hd => by
          rw [List.take_add_one, HLK.out] at hd
          rcases List.mem_append.1 hd with h | h
          · exact HR.out.2 d h
          · simp at h
            rw [h]
            exact HK.out.2⟩⟩
        case measure => simp [intOf]; omega
    · have hkn : k = l.length := by have := HL.out.2.2.1; omega
      have hall := HR.out.2
      rw [hkn, List.take_length] at hall
      have HA := Lib.hid hall
      clear hkn hall
      go_wp2_with (fail)
      go_ret
      exact ⟨ret_int (idxN_none HA.out).symm, HR.out.1⟩

set_option maxRecDepth 100000 in
set_option maxHeartbeats 800000 in
theorem index_any (w : World) (lo hi : Nat) (v : Value) (l : List Cmd) (h : LedAt w lo hi v l) (hhi : hi ≤ w.heap.size) (a b d : Int) :
    Calls Tryd.prog 154 #[v, .agg #[.int .i64 a, .int .i64 b, .int .i64 d]] w fun e w' => e = .returned (.int .i64 (idxN l a b d)) ∧ Below w.heap.size w w' := by
  have hmf : ∀ (fn : Fn) (first cap : Array Value) (w : World), (Instr.makeFunc fn first cap).run Tryd.prog w = .ok (.func fn first cap) w := fun _ _ _ _ => rfl
  have bA : Below w.heap.size w (w.alloc (.cells #[.int .i64 a, .int .i64 b, .int .i64 d] 74)) := (Below.refl _ _).alloc (Nat.le_refl _) _
  have k168 := idx168 (w.alloc (.cells #[.int .i64 a, .int .i64 b, .int .i64 d] 74)) lo hi v l (h.fr (Fr.of_below bA (fun _ => False)) hhi (fun _ _ _ h => h)) (Nat.le_trans hhi bA.size) w.heap.size a b d (Blk.new w 74 _)
  have HK := Lib.hid (And.intro k168 bA)
  clear k168 bA h
  go_enter Tryd.func154, Tryd.ntmps154
  go_wp2_with (first | (go_at_call 168; refine HK.out.1.mono ?_; rintro e w2 ⟨rfl, b2⟩; have H2 := Lib.hid b2; clear b2) | fail)
  go_ret
  exact ⟨rfl, HK.out.2.trans (H2.out.mono HK.out.2.size)⟩
end Go.Proofs.YtnlncfjibbdimaaDoor
