/-
  The walks of the document's piece and ticks.
-/
import Derived.Test.YtnlncfjibbdimaaDoorPiece
import Derived.Deep.CutBlock
namespace Go.Proofs.YtnlncfjibbdimaaDoor
open Go.RowKit
set_option linter.unusedSimpArgs false
set_option linter.unusedVariables false

set_option maxHeartbeats 400000 in
theorem ticks_any (n : Int) (w : World) : Calls Tryd.prog 105 #[.int .i64 n] w fun e w' => e = .returned (.bool (tick n)) ∧ w' = w := by
  obtain ⟨r, hr⟩ : ∃ r, r = tick n := ⟨_, rfl⟩
  rw [← hr]
  unfold tick at hr
  have HR := Lib.hid hr
  clear hr
  by_cases h1 : n ≥ 0
  · by_cases h2 : n ≤ 1099511627776
    · go_enter Tryd.func105, Tryd.ntmps105
      go_wp2
      go_ret
      exact ⟨ret_bool (by rw [HR.out]; simp; omega), rfl⟩
    · go_enter Tryd.func105, Tryd.ntmps105
      go_wp2
      go_ret
      exact ⟨ret_bool (by rw [HR.out]; simp; omega), rfl⟩
  · go_enter Tryd.func105, Tryd.ntmps105
    go_wp2
    go_ret
    exact ⟨ret_bool (by rw [HR.out]; simp; omega), rfl⟩

def hexB (b : UInt8) : Bool := decide ((48 ≤ (b.toNat : Int) ∧ (b.toNat : Int) ≤ 57) ∨ (97 ≤ (b.toNat : Int) ∧ (b.toNat : Int) ≤ 102))
theorem set_hexes (b : UInt8) : inSet hexes b = hexB b := by
  revert b
  exact byte_all (by decide +kernel)

/-- ok at byte k: what stood ahead, and the first k bytes are hex. -/
def hUpTo (r : Bool) (s : ByteArray) (k : Nat) : Bool := r && (s.data.toList.take k).all hexB
theorem hUpTo_succ {r : Bool} {s : ByteArray} {k : Nat} {b : UInt8} (h : s.data.toList[k]? = some b) : hUpTo r s (k + 1) = (hUpTo r s k && hexB b) := by
  unfold hUpTo
  rw [all_take_succ h, Bool.and_assoc]

set_option maxRecDepth 100000 in
set_option maxHeartbeats 3200000 in
theorem rpiece_any (a b c z : Int) (s : ByteArray) (hs : s.size ≤ maxLen) (w : World) : Calls Tryd.prog 104 #[.agg #[.int .i64 a, .int .i64 b, .int .i64 c, .int .i64 z, .string s]] w (PiecePost (pieceB a b c z s) w) := by
  have hs' : s.size ≤ 9223372036854775807 := by simpa [maxLen] using hs
  obtain ⟨r1, h1⟩ : ∃ r, r = gid a b c := ⟨_, rfl⟩
  have k41 := fun w => rgoodId_any a b c w
  unfold IdPost at k41
  rw [← h1] at k41
  obtain ⟨r0, h0⟩ : ∃ r, r = (r1 && decide (0 ≤ z ∧ z ≤ 1024) && decide (s.size = 64)) := ⟨_, rfl⟩
  have hr : pieceB a b c z s = hUpTo r0 s s.size := by
    have hln : s.data.toList.length = s.size := by simp
    unfold pieceB hUpTo allB
    rw [h0, h1, ← hln, List.take_length]
    congr 1
    congr 1
    funext x
    exact set_hexes x
  have hln : s.data.toList.length = s.size := by simp
  have HL := Lib.hid hln
  have HR := Lib.hid hr
  have H0 := Lib.hid h0
  clear h1 hr hs h0 hln
  go_enter Tryd.func104, Tryd.ntmps104
  go_upto_region 1 with (fail)
  refine wp_letter (fun W => Below w.heap.size w W ∧ Blk W w.heap.size 79 #[.int .i64 a, .int .i64 b, .int .i64 c, .int .i64 z, .string s]) ⟨(Below.refl w.heap.size w).alloc (Nat.le_refl _) _, Blk.new w 79 _⟩ ?_
  rintro W ⟨hb, hX⟩
  obtain ⟨x, hx⟩ : ∃ x, x = w.heap.size := ⟨_, rfl⟩
  rw [← hx] at hX ⊢
  clear hx
  go_cut [3] (fun v wx => v = .bool r0 ∧ Below w.heap.size w wx ∧ Blk wx x 79 #[.int .i64 a, .int .i64 b, .int .i64 c, .int .i64 z, .string s])
  case first =>
    have cX := hX.cell
    go_wp2_with (fail)
    refine (k41 _).mono ?_
    rintro e w2 ⟨rfl, b2⟩
    have hX2 := hX.below b2 hX.lt
    have hb2 := hb.trans (b2.mono hb.size)
    clear cX hX hb b2
    have cX := hX2.cell
    have HB := Lib.hid (And.intro hb2 hX2)
    clear hb2 hX2
    cases r1 with
    | false =>
      have e0 : r0 = false := by rw [H0.out]; simp
      subst e0
      go_wp2_with (fail)
      go_meet
      exact ⟨rfl, HB.out⟩
    | true =>
      by_cases z0 : z ≥ 0
      · by_cases z1 : z ≤ 1024
        · by_cases s64 : (s.size : Int) = 64
          · have e0 : r0 = true := by rw [H0.out, decide_eq_true (show 0 ≤ z ∧ z ≤ 1024 by omega), decide_eq_true (show s.size = 64 by omega)]; rfl
            subst e0
            go_wp2_with (fail)
            go_meet
            exact ⟨rfl, HB.out⟩
          · have e0 : r0 = false := by rw [H0.out, decide_eq_false (show ¬ s.size = 64 by omega)]; simp
            subst e0
            go_wp2_with (fail)
            go_meet
            exact ⟨by first | rfl | rw [beq_eq_false_iff_ne.2 s64], HB.out⟩
        · have e0 : r0 = false := by rw [H0.out, decide_eq_false (show ¬ (0 ≤ z ∧ z ≤ 1024) by omega)]; simp
          subst e0
          go_wp2_with (fail)
          go_meet
          exact ⟨rfl, HB.out⟩
      · have e0 : r0 = false := by rw [H0.out, decide_eq_false (show ¬ (0 ≤ z ∧ z ≤ 1024) by omega)]; simp
        subst e0
        go_wp2_with (fail)
        go_meet
        exact ⟨rfl, HB.out⟩
  case rest =>
    obtain ⟨rfl, hb, hX⟩ := hcut
    have cX := hX.cell
    have HB := Lib.hid hb
    clear hX hb k41 H0
    have h0 : hUpTo r0 s 0 = r0 := by simp [hUpTo]
    have HU0 := Lib.hid h0
    clear h0
    go_wp2_with (fail)
    go_loop [3, 4] (fun v i => ∃ k : Nat, k ≤ s.size ∧ i = .int .i64 k ∧ v = .bool (hUpTo r0 s k)) (fun _ i => s.size - (intOf i).toNat)
    case atStart => exact ⟨0, Nat.zero_le _, rfl, by rw [HU0.out]⟩
    case round =>
      obtain ⟨k, hk, rfl, rfl⟩ := hrel
      by_cases hlt : k < s.size
      · obtain ⟨b', hb'⟩ : ∃ b, s.data.toList[k]? = some b := ⟨_, List.getElem?_eq_getElem (by rw [HL.out]; exact hlt)⟩
        have hidx := str_index s k b' hb'
        have hup := hUpTo_succ (r := r0) hb'
        obtain ⟨u, hu⟩ : ∃ u, u = hUpTo r0 s k := ⟨_, rfl⟩
        have hkb : hexB b' = decide ((48 ≤ (b'.toNat : Int) ∧ (b'.toNat : Int) ≤ 57) ∨ (97 ≤ (b'.toNat : Int) ∧ (b'.toNat : Int) ≤ 102)) := rfl
        rw [← hu, hkb] at hup
        rw [← hu]
        obtain ⟨d, hd⟩ : ∃ d : Int, d = (b'.toNat : Int) := ⟨_, rfl⟩
        rw [← hd] at hidx hup
        have HU := Lib.hid hup
        clear hup hu hb' hd hkb
        cases u with
        | false =>
          go_wp2
          go_round
          case rel => exact ⟨k + 1, by omega, by go_num, by rw [HU.out]; simp⟩
          case measure => simp [intOf]; omega
        | true =>
          by_cases c1 : d ≥ 48
          · by_cases c2 : d ≤ 57
            · go_wp2
              go_round
              case rel => exact ⟨k + 1, by omega, by go_num, by rw [HU.out]; simp; omega⟩
              case measure => simp [intOf]; omega
            · by_cases c3 : d ≥ 97
              · by_cases c4 : d ≤ 102
                · go_wp2
                  go_round
                  case rel => exact ⟨k + 1, by omega, by go_num, by rw [HU.out]; simp; omega⟩
                  case measure => simp [intOf]; omega
                · go_wp2
                  go_round
                  case rel => exact ⟨k + 1, by omega, by go_num, by rw [HU.out]; simp; omega⟩
                  case measure => simp [intOf]; omega
              · go_wp2
                go_round
                case rel => exact ⟨k + 1, by omega, by go_num, by rw [HU.out]; simp; omega⟩
                case measure => simp [intOf]; omega
          · have c3 : ¬ d ≥ 97 := by omega
            go_wp2
            go_round
            case rel => exact ⟨k + 1, by omega, by go_num, by rw [HU.out]; simp; omega⟩
            case measure => simp [intOf]; omega
      · have hkn : k = s.size := by omega
        obtain ⟨r, hr⟩ : ∃ r, r = hUpTo r0 s k := ⟨_, rfl⟩
        rw [← hr]
        have HK := Lib.hid hkn
        have HRR := Lib.hid hr
        clear hkn hr
        go_wp2
        go_ret
        exact PiecePost.of (by rw [HRR.out, HK.out, HR.out]) HB.out

end Go.Proofs.YtnlncfjibbdimaaDoor
