/-
  The walks of the document's Sum, Seal and Open.
-/
import Derived.LaidEql
import Derived.Deep.RegionHeld3
import Derived.Test.YtnlncfjibbdimaaDoorUBase
import Derived.Test.YtnlncfjibbdimaaDoorUSameL
import Derived.Test.YtnlncfjibbdimaaDoorUSameC
import Derived.Test.YtnlncfjibbdimaaDoorULaws
import Derived.Test.YtnlncfjibbdimaaDoorURdX
import Derived.Test.YtnlncfjibbdimaaDoorURdrA
import Derived.Test.YtnlncfjibbdimaaDoorULex
import Derived.Test.YtnlncfjibbdimaaDoorUNames5
import Derived.Test.YtnlncfjibbdimaaDoorUCheck
import Derived.Test.YtnlncfjibbdimaaDoorUPiece
import Derived.Test.YtnlncfjibbdimaaDoorUKind
import Derived.Test.YtnlncfjibbdimaaDoorUWireX
import Derived.Test.YtnlncfjibbdimaaDoorURefWire
namespace Go.Proofs.YtnlncfjibbdimaaDoor
open Go.RowKit
set_option linter.unusedSimpArgs false
set_option linter.unusedVariables false
theorem errEq_other {a b : Addr} (w : World) (hne : a ≠ b) (ha : ErrBlk w a) (hb : ErrBlk w b) : (binOp .eql 34 (errv a) (errv b)).run Tryd.prog w = .ok (.bool false) w := by
  obtain ⟨i, j, h1, h2, h3, h4⟩ := err_info
  obtain ⟨ca, ta, ha⟩ := ha
  obtain ⟨cb, tb, hb⟩ := hb
  exact run_eql_iface_ptr_other w Tryd.underlying34 Tryd.underlying251 h1 h2 h3 h4 hne ha hb
end Go.Proofs.YtnlncfjibbdimaaDoor

namespace Go.Proofs.YtnlncfjibbdimaaDoor
open Go.RowKit
set_option linter.unusedSimpArgs false
set_option linter.unusedVariables false
/-- The parts' slice in a row. -/
def hdrOf : Option Value → Option Addr × Nat
  | some (Value.slice A _ c) => (A, c)
  | _ => (none, 0)
def hdr (rows : List (List Value)) (i : Nat) : Option Addr × Nat := hdrOf (rows.flatten[i * 18 + 15]?)
end Go.Proofs.YtnlncfjibbdimaaDoor

namespace Go.Proofs.YtnlncfjibbdimaaDoor
open Go.RowKit
set_option linter.unusedSimpArgs false
set_option linter.unusedVariables false
theorem val_snoc : ∀ (a : List Nat) (c : Nat), val (a ++ [c]) = val a + c % 128 * 2 ^ (7 * a.length)
  | [], c => by simp [val]
  | x :: r, c => by
    rw [List.cons_append, val, val, val_snoc r c, List.length_cons, show 7 * (r.length + 1) = 7 + 7 * r.length by omega, Nat.pow_add, Nat.mul_add, ← Nat.add_assoc]
    congr 1
    rw [← Nat.mul_assoc, ← Nat.mul_assoc, Nat.mul_comm 128 (c % 128)]
theorem val_lt : ∀ (a : List Nat), val a < 2 ^ (7 * a.length)
  | [] => by simp [val]
  | x :: r => by
    have ih := val_lt r
    rw [val, List.length_cons, show 7 * (r.length + 1) = 7 + 7 * r.length by omega, Nat.pow_add]
    have : x % 128 < 128 := Nat.mod_lt _ (by omega)
    omega
theorem val_63 {a : List Nat} (h : a.length ≤ 9) : val a < 9223372036854775808 := by
  have h1 := val_lt a
  have h2 : 2 ^ (7 * a.length) ≤ 2 ^ 63 := Nat.pow_le_pow_right (by omega) (by omega)
  omega
theorem val_drop {l : List Nat} {j x : Nat} (h : l[j]? = some x) : val (l.drop j) = x % 128 + 128 * val (l.drop (j + 1)) := by
  obtain ⟨h1, h2⟩ := List.getElem?_eq_some_iff.1 h
  rw [List.drop_eq_getElem_cons h1, h2, val]
theorem dec_high (l : List Nat) : ∀ k, (∀ j x, j < k → l[j]? = some x → 128 ≤ x) → k ≤ l.length → k ≤ 9 → dec l = decG k (val (l.take k)) (l.drop k)
  | 0, _, _, _ => by simp [dec, val]
  | k + 1, hh, hk, h9 => by
    have ih := dec_high l k (fun j x hj => hh j x (by omega)) (by omega) (by omega)
    obtain ⟨x, hx⟩ : ∃ x, l[k]? = some x := ⟨_, List.getElem?_eq_getElem (by omega)⟩
    have hx1 := hh k x (by omega) hx
    obtain ⟨h1, h2⟩ := List.getElem?_eq_some_iff.1 hx
    rw [ih, List.drop_eq_getElem_cons h1, h2, decG_high (by omega) (by omega), take_snoc hx, val_snoc, List.length_take, Nat.min_eq_left (by omega)]
theorem ref_low {l : List Nat} {k c : Nat} (hk : k < 9) (hc : l[k]? = some c) (hlow : c < 128) (hh : ∀ j x, j < k → l[j]? = some x → 128 ≤ x) (h256 : ∀ x ∈ l, x < 256) :
    (enc (val (l.take (k + 1))) = l.take (k + 1) → dec l = some (val (l.take (k + 1)), l.drop (k + 1))) ∧ (¬ enc (val (l.take (k + 1))) = l.take (k + 1) → dec l = none) := by
  obtain ⟨h1, h2⟩ := List.getElem?_eq_some_iff.1 hc
  have hd := dec_high l k hh (by omega) (by omega)
  rw [List.drop_eq_getElem_cons h1, h2, decG_low (by omega) hlow] at hd
  have hv : val (l.take k) + c % 128 * 2 ^ (7 * k) = val (l.take (k + 1)) := by
    rw [take_snoc hc, val_snoc, List.length_take, Nat.min_eq_left (by omega)]
  rw [hv] at hd
  have hlen : (l.take (k + 1)).length ≤ 9 := by rw [List.length_take]; omega
  refine ⟨fun he => ?_, fun he => ?_⟩
  · have := dec_enc (val (l.take (k + 1))) (l.drop (k + 1)) (val_63 hlen)
    rw [he, List.take_append_drop] at this
    exact this
  · rw [hd]
    split
    · rename_i hcond
      rw [if_pos hcond] at hd
      have := dec_inv h256 hd
      exact absurd (List.append_cancel_right (this.symm.trans (List.take_append_drop (k + 1) l).symm)) he
    · rfl
theorem ref_none {l : List Nat} {k : Nat} (hh : ∀ j x, j < k → l[j]? = some x → 128 ≤ x) (hk : k ≤ l.length) (h9 : k ≤ 9) (he : k = 9 ∨ k = l.length) : dec l = none := by
  rw [dec_high l k hh hk h9]
  rcases he with rfl | rfl
  · exact decG_end (Nat.le_refl _)
  · rw [List.drop_length, decG_nil]
end Go.Proofs.YtnlncfjibbdimaaDoor
namespace Go.Proofs.YtnlncfjibbdimaaDoor
open Go.RowKit
set_option linter.unusedSimpArgs false
set_option linter.unusedVariables false
theorem enc_byte8 : ∀ (n : Nat), ∀ x ∈ enc n, x < 256 := by
  intro n
  induction n using Nat.strongRecOn with
  | ind n ih =>
    intro x hx
    by_cases hb : n < 128
    · rw [enc_small hb, List.mem_singleton] at hx
      omega
    · rw [enc_big hb, List.mem_cons] at hx
      rcases hx with rfl | hx
      · omega
      · exact ih (n / 128) (by omega) x hx
/-- What Read answers. -/
def RReadPost (bs : List Nat) (p : Nat) (w : World) (e : Ending) (w' : World) : Prop :=
  Below w.heap.size w w' ∧ ∃ (n q : Nat) (ok : Bool), e = .returned (.tuple #[.int .i64 n, .int .i64 q, .bool ok]) ∧
    (ok = true → dec (bs.drop p) = some (n, bs.drop q) ∧ q ≤ bs.length ∧ n ≤ 9223372036854775807) ∧ (ok = false → dec (bs.drop p) = none)
set_option maxRecDepth 100000 in
set_option maxHeartbeats 3200000 in
theorem rread_any (w : World) (hi p c : Nat) (A : Option Addr) (bs : List Nat) (hr : Rd w 0 hi 1 A bs.length (u8s bs)) (hhi : hi ≤ w.heap.size) (hl : bs.length ≤ 140737488355328) (hp : p ≤ bs.length)
    (hc : bs.length ≤ c ∧ c ≤ 9223372036854775807) (h256 : ∀ x ∈ bs, x < 256) : Calls Tryd.prog 152 #[.slice A bs.length c, .int .i64 p] w (RReadPost bs p w) := by
  obtain ⟨n, hn⟩ : ∃ n, n = bs.length := ⟨_, rfl⟩
  have HR := Lib.hid (And.intro hr hhi)
  have H256 := Lib.hid h256
  have HN := Lib.hid hn
  rw [← hn] at hl hp hc ⊢
  have H256d : ∀ x ∈ bs.drop p, x < 256 := fun x hx => h256 x (List.mem_of_mem_drop hx)
  have HD := Lib.hid H256d
  clear hr hhi h256 hn H256d
  go_enter Tryd.func152, Tryd.ntmps152
  go_wp2_with (fail)
  go_loop [7] (fun v => ∃ (i : Nat), p ≤ i ∧ i ≤ p + 9 ∧ i ≤ n ∧ v = .int .i64 i ∧ (∀ j x, j < i - p → (bs.drop p)[j]? = some x → 128 ≤ x)) (fun v => 9 + p - (intOf v).toNat)
  case atStart => exact ⟨p, by omega, by omega, by omega, rfl, fun j x hj => absurd hj (by omega)⟩
  case round =>
    obtain ⟨i, hpi, hi9, hin, rfl, hh⟩ := hrel
    have HH := Lib.hid hh
    clear hh
    by_cases hend : i < n
    · by_cases h9 : i < p + 9
      · obtain ⟨x, hx⟩ : ∃ x, bs[i]? = some x := ⟨_, List.getElem?_eq_getElem (by rw [← HN.out]; exact hend)⟩
        obtain ⟨b, o, rfl⟩ := HR.out.1.addr (by rw [← HN.out]; omega)
        have hck := HR.out.1.at8 hx
        have hxd : (bs.drop p)[i - p]? = some x := by rw [List.getElem?_drop, show p + (i - p) = i by omega]; exact hx
        have hx256 := H256.out x (List.mem_of_getElem? hx)
        have HX := Lib.hid (And.intro hx hxd)
        clear hx hxd
        by_cases hlow : (x : Int) < 128
        · have hlt : ¬ (x : Int) ≥ 128 := by omega
          obtain ⟨k, hk⟩ : ∃ k, k = i - p := ⟨_, rfl⟩
          obtain ⟨T, hT⟩ : ∃ T, T = (bs.drop p).take (k + 1) := ⟨_, rfl⟩
          have hTl : T.length = k + 1 := by rw [hT, List.length_take, List.length_drop, ← HN.out]; omega
          have hTg : ∀ s y, T[s]? = some y → bs[p + s]? = some y := fun s y hs => by
            rw [hT, List.getElem?_take] at hs
            split at hs
            · rw [List.getElem?_drop] at hs; exact hs
            · cases hs
          have HT := Lib.hid (And.intro hT (And.intro hTl (And.intro hTg hk)))
          have hik : (i : Int) = (p : Int) + ((k + 1 : Nat) : Int) - 1 := by omega
          have hk9 : k < 9 := by omega
          have HK9 := Lib.hid (And.intro hk9 hik)
          clear hT hTl hTg hk hik hk9
          go_wp2_with (fail)
          go_loop [8, 9] (fun v j => ∃ (t : Nat) (z : Int) (m : Nat), t ≤ k + 1 ∧ z = (p : Int) + t - 1 ∧ j = .int .i64 z ∧ v = .int .i64 m ∧ m = val (T.drop t)) (fun _ j => (intOf j - p + 1).toNat)
          case atStart => exact ⟨k + 1, i, 0, Nat.le_refl _, HK9.out.2, rfl, rfl, by rw [List.drop_eq_nil_of_le (by rw [HT.out.2.1]; omega)]; rfl⟩
          case round =>
            obtain ⟨t, z, m, ht, hz, rfl, rfl, hm⟩ := hrel
            by_cases ht0 : 0 < t
            · obtain ⟨s, rfl⟩ : ∃ s, t = s + 1 := ⟨t - 1, by omega⟩
              obtain ⟨y, hy⟩ : ∃ y, T[s]? = some y := ⟨_, List.getElem?_eq_getElem (by rw [HT.out.2.1]; omega)⟩
              have hyb := HT.out.2.2.1 s y hy
              have hcy := HR.out.1.at8 hyb
              have hy256 := H256.out y (List.mem_of_getElem? hyb)
              obtain ⟨u, hu⟩ : ∃ u : Nat, u = p + s := ⟨_, rfl⟩
              rw [← hu] at hcy
              obtain rfl : z = (u : Int) := by omega
              have hpu : (u : Int) ≥ p := by omega
              have hun : (u : Int) < n := by have := HK9.out.2; omega
              obtain ⟨q, hq⟩ : ∃ q, q = y % 128 := ⟨_, rfl⟩
              obtain ⟨m', hm'⟩ : ∃ m' : Nat, m' = val (T.drop s) := ⟨_, rfl⟩
              have hmm : m' = q + 128 * m := by rw [hm', val_drop hy, hq, hm]
              have hm63 : m' < 9223372036854775808 := by
                rw [hm']
                exact val_63 (by rw [List.length_drop, HT.out.2.1]; have := HK9.out.1; omega)
              have hb1 : (y : Int).tmod 128 = (q : Int) := by rw [Int.tmod_eq_emod_of_nonneg (by omega)]; omega
              have hm1 : (m : Int) * 128 ≤ 9223372036854775807 := by omega
              have hm2 : (m : Int) * 128 + (q : Int) ≤ 9223372036854775807 := by omega
              have HM := Lib.hid (And.intro hm' (And.intro hmm hu))
              clear hm hm' hmm hq hy hyb hz hu
              go_wp2_with (fail)
              go_round
              case rel => exact ⟨s, (u : Int) - 1, m', by omega, by have := HM.out.2.2; omega, by go_num, by have := HM.out.2.1; go_num, HM.out.1⟩
              case measure => simp [intOf]; omega
            · obtain rfl : t = 0 := by omega
              have hzp : ¬ z ≥ p := by omega
              rw [List.drop_zero] at hm
              have hTs := HT.out.1
              have hri := ref_low (l := bs.drop p) (k := k) (c := x) HK9.out.1 (by rw [HT.out.2.2.2]; exact HX.out.2) (by omega) (by rw [HT.out.2.2.2]; exact HH.out) HD.out
              rw [← HT.out.1, ← hm] at hri
              have hm63 : m ≤ 9223372036854775807 := by
                have := val_63 (a := T) (by rw [HT.out.2.1]; have := HK9.out.1; omega)
                omega
              have hsb : ∀ W, Below w.heap.size w W → (convert 84 9 (.slice (some ⟨b, o + p, none⟩) (k + 1) (c - p))).run Tryd.prog W = .ok (.string (textOf T)) W := fun W hW => by
                have h1 := (HR.out.1.fr (Fr.of_below hW (fun _ => False)) HR.out.2 (fun _ _ _ h => h)).sub (p := p) (xs := T) HT.out.2.2.1
                have := conv_bytes (W := W) (c := c - p) (fun y hy => HD.out y (by rw [HT.out.1] at hy; exact List.mem_of_mem_take hy)) h1 (fun h => by cases h)
                rw [HT.out.2.1] at this
                exact this
              have h256T : ∀ y ∈ T, y < 256 := fun y hy => HD.out y (by rw [HT.out.1] at hy; exact List.mem_of_mem_take hy)
              have henc : (enc m).length ≤ 140737488355328 := by
                have := enc_len 9 m (by have : (128 : Nat) ^ 10 = 1180591620717411303424 := by decide
                                        omega)
                omega
              have k133 := rnum_any w.drew m henc hm63
              have HK133 := Lib.hid k133
              have HS := Lib.hid hsb
              have HRI := Lib.hid (And.intro hri (And.intro h256T henc))
              have hs0 := HS.out w.drew ((Below.refl _ _).drew)
              have hcp : ¬ (c : Int) = p := by omega
              obtain ⟨i1, hi1⟩ : ∃ i1 : Nat, i1 = i + 1 := ⟨_, rfl⟩
              have hi1' : (i : Int) + 1 = (i1 : Int) := by omega
              have hq1 : i1 - p = k + 1 := by have := HK9.out.2; omega
              have hqn1 : (0 : Int) ≤ (p : Int) := by omega
              have hqn2 : (p : Int) ≤ (i1 : Int) := by omega
              have hqn3 : (i1 : Int) ≤ (c : Int) := by omega
              have hwi : IntKind.i64.wrap (i1 : Int) = (i1 : Int) := by rw [IntKind.wrap_i64]; omega
              have hcpN : ¬ c = p := by omega
              have hend1 : bs.drop i1 = (bs.drop p).drop (k + 1) ∧ i1 = i + 1 := ⟨by rw [List.drop_drop]; congr 1; omega, hi1⟩
              have HE := Lib.hid hend1
              clear hi1 hri hm hTs k133 hsb h256T henc hend1
              go_upto_region 10 with (fail)
              by_cases he : enc m = T
              · have HEQ := Lib.hid he
                clear he
                refine wp_region_held_drew (S := fun w' => (convert 84 9 (.slice (some ⟨b, o + p, none⟩) (k + 1) (c - p))).run Tryd.prog w' = .ok (.string (textOf T)) w') (by kernel_rfl) hs0 (fun _ => ?_)
                refine wpAnyH_take (i := 0) (v := .int .i64 m) rfl (by kernel_rfl) (by kernel_rfl) (by kernel_rfl) (fun _ _ _ h => h) (Or.inl ⟨by kernel_rfl, fun w' hSw => ?_⟩) hs0 ?_
                · go_simp
                simp only [List.getElem_toArray, List.getElem_cons_succ, List.getElem_cons_zero, Act.put, List.setIfInBounds_toArray, List.set_cons_zero, List.set_cons_succ]
                refine wpAnyH_take (i := 3) (v := .slice (some ⟨b, o, none⟩) n c) rfl (by kernel_rfl) (by kernel_rfl) (by kernel_rfl) (fun _ _ _ h => h) (Or.inl ⟨by kernel_rfl, fun w' hSw => ?_⟩) hs0 ?_
                · go_simp
                simp only [List.getElem_toArray, List.getElem_cons_succ, List.getElem_cons_zero, Act.put, List.setIfInBounds_toArray, List.set_cons_zero, List.set_cons_succ]
                refine wpAnyH_take (i := 4) (v := .int .i64 p) rfl (by kernel_rfl) (by kernel_rfl) (by kernel_rfl) (fun _ _ _ h => h) (Or.inl ⟨by kernel_rfl, fun w' hSw => ?_⟩) hs0 ?_
                · go_simp
                simp only [List.getElem_toArray, List.getElem_cons_succ, List.getElem_cons_zero, Act.put, List.setIfInBounds_toArray, List.set_cons_zero, List.set_cons_succ]
                refine wpAnyH_take (i := 5) (v := .int .i64 i) rfl (by kernel_rfl) (by kernel_rfl) (by kernel_rfl) (fun _ _ _ h => h) (Or.inl ⟨by kernel_rfl, fun w' hSw => ?_⟩) hs0 ?_
                · go_simp
                simp only [List.getElem_toArray, List.getElem_cons_succ, List.getElem_cons_zero, Act.put, List.setIfInBounds_toArray, List.set_cons_zero, List.set_cons_succ]
                refine wpAnyH_take (i := 6) (v := .int .i64 i1) rfl (by kernel_rfl) (by kernel_rfl) (by kernel_rfl) (fun _ _ _ h => h) (Or.inl ⟨by kernel_rfl, fun w' hSw => ?_⟩) hs0 ?_
                · go_simp
                simp only [List.getElem_toArray, List.getElem_cons_succ, List.getElem_cons_zero, Act.put, List.setIfInBounds_toArray, List.set_cons_zero, List.set_cons_succ]
                refine wpAnyH_take (i := 7) (v := .slice (some ⟨b, o + p, none⟩) (k + 1) (c - p)) rfl (by kernel_rfl) (by kernel_rfl) (by kernel_rfl) (fun _ _ _ h => h) (Or.inl ⟨by kernel_rfl, fun w' hSw => ?_⟩) hs0 ?_
                · go_simp
                simp only [List.getElem_toArray, List.getElem_cons_succ, List.getElem_cons_zero, Act.put, List.setIfInBounds_toArray, List.set_cons_zero, List.set_cons_succ]
                refine wpAnyH_take (i := 8) (v := .string (textOf T)) rfl (by kernel_rfl) (by kernel_rfl) (by kernel_rfl) (fun _ _ _ h => h) (Or.inl ⟨by kernel_rfl, fun w' hSw => ?_⟩) hs0 ?_
                · go_simp
                simp only [List.getElem_toArray, List.getElem_cons_succ, List.getElem_cons_zero, Act.put, List.setIfInBounds_toArray, List.set_cons_zero, List.set_cons_succ]
                refine wpAnyH_ready (rs := [1]) (by kernel_rfl) (by simp) ?_
                refine AllReadyH.cons rfl (fun K hK => ?_) AllReadyH.nil
                go_simp
                refine HK133.out.mono ?_
                rintro e w1 ⟨v1, rfl, o1, b1⟩
                have hs1 := HS.out w1 (((Below.refl _ _).drew).trans b1)
                obtain ⟨A1, c1, rfl, r1⟩ := o1.rd
                have hc1 := conv_bytes (W := w1) (c := c1) (fun y hy => HRI.out.2.1 y (by rw [← HEQ.out]; exact hy)) r1 (ownA8 o1)
                rw [show textOf (enc m) = textOf T from congrArg textOf HEQ.out] at hc1
                have HB := Lib.hid b1
                clear o1 b1 r1
                refine Shut.out hK _ _ hs1 (fun _ => ?_)
                clear hK K
                refine wpAnyH_ready (rs := [2]) (by kernel_rfl) (by simp) ?_
                refine AllReadyH.cons rfl (fun K hK => ?_) AllReadyH.nil
                go_simp
                refine Shut.out hK _ _ hs1 (fun _ => ?_)
                clear hK K
                refine wpAnyH_take (i := 9) (v := .bool false) rfl (by kernel_rfl) (by kernel_rfl) (by kernel_rfl) (fun _ _ _ h => h) (Or.inl ⟨by kernel_rfl, fun w' hSw => ?_⟩) hs1 ?_
                · go_simp
                simp only [List.getElem_toArray, List.getElem_cons_succ, List.getElem_cons_zero, Act.put, List.setIfInBounds_toArray, List.set_cons_zero, List.set_cons_succ]
                refine wpAnyH_done (by kernel_rfl) ?_ _
                go_wp2_with (fail)
                exact bodyPost_ret (v := .tuple #[.int .i64 m, .int .i64 i1, .bool true]) (by simp [results, Tryd.results152, go_sem]) rfl
                  ⟨(Below.refl _ _).drew.trans HB.out, m, i1, true, rfl, fun _ => ⟨by rw [HE.out.1]; exact HRI.out.1.1 HEQ.out, by have := HE.out.2; have := HN.out; omega, hm63⟩, fun h => by cases h⟩
              · have hne := textOf_eq (a := enc m) (b := T) (enc_byte8 m) HRI.out.2.1
                rw [decide_eq_false he] at hne
                have hne' : ¬ textOf (enc m) = textOf T := fun h => by rw [h] at hne; simp at hne
                have HNE := Lib.hid he
                clear he
                refine wp_region_held_drew (S := fun w' => (convert 84 9 (.slice (some ⟨b, o + p, none⟩) (k + 1) (c - p))).run Tryd.prog w' = .ok (.string (textOf T)) w') (by kernel_rfl) hs0 (fun _ => ?_)
                refine wpAnyH_take (i := 0) (v := .int .i64 m) rfl (by kernel_rfl) (by kernel_rfl) (by kernel_rfl) (fun _ _ _ h => h) (Or.inl ⟨by kernel_rfl, fun w' hSw => ?_⟩) hs0 ?_
                · go_simp
                simp only [List.getElem_toArray, List.getElem_cons_succ, List.getElem_cons_zero, Act.put, List.setIfInBounds_toArray, List.set_cons_zero, List.set_cons_succ]
                refine wpAnyH_take (i := 3) (v := .slice (some ⟨b, o, none⟩) n c) rfl (by kernel_rfl) (by kernel_rfl) (by kernel_rfl) (fun _ _ _ h => h) (Or.inl ⟨by kernel_rfl, fun w' hSw => ?_⟩) hs0 ?_
                · go_simp
                simp only [List.getElem_toArray, List.getElem_cons_succ, List.getElem_cons_zero, Act.put, List.setIfInBounds_toArray, List.set_cons_zero, List.set_cons_succ]
                refine wpAnyH_take (i := 4) (v := .int .i64 p) rfl (by kernel_rfl) (by kernel_rfl) (by kernel_rfl) (fun _ _ _ h => h) (Or.inl ⟨by kernel_rfl, fun w' hSw => ?_⟩) hs0 ?_
                · go_simp
                simp only [List.getElem_toArray, List.getElem_cons_succ, List.getElem_cons_zero, Act.put, List.setIfInBounds_toArray, List.set_cons_zero, List.set_cons_succ]
                refine wpAnyH_take (i := 5) (v := .int .i64 i) rfl (by kernel_rfl) (by kernel_rfl) (by kernel_rfl) (fun _ _ _ h => h) (Or.inl ⟨by kernel_rfl, fun w' hSw => ?_⟩) hs0 ?_
                · go_simp
                simp only [List.getElem_toArray, List.getElem_cons_succ, List.getElem_cons_zero, Act.put, List.setIfInBounds_toArray, List.set_cons_zero, List.set_cons_succ]
                refine wpAnyH_take (i := 6) (v := .int .i64 i1) rfl (by kernel_rfl) (by kernel_rfl) (by kernel_rfl) (fun _ _ _ h => h) (Or.inl ⟨by kernel_rfl, fun w' hSw => ?_⟩) hs0 ?_
                · go_simp
                simp only [List.getElem_toArray, List.getElem_cons_succ, List.getElem_cons_zero, Act.put, List.setIfInBounds_toArray, List.set_cons_zero, List.set_cons_succ]
                refine wpAnyH_take (i := 7) (v := .slice (some ⟨b, o + p, none⟩) (k + 1) (c - p)) rfl (by kernel_rfl) (by kernel_rfl) (by kernel_rfl) (fun _ _ _ h => h) (Or.inl ⟨by kernel_rfl, fun w' hSw => ?_⟩) hs0 ?_
                · go_simp
                simp only [List.getElem_toArray, List.getElem_cons_succ, List.getElem_cons_zero, Act.put, List.setIfInBounds_toArray, List.set_cons_zero, List.set_cons_succ]
                refine wpAnyH_take (i := 8) (v := .string (textOf T)) rfl (by kernel_rfl) (by kernel_rfl) (by kernel_rfl) (fun _ _ _ h => h) (Or.inl ⟨by kernel_rfl, fun w' hSw => ?_⟩) hs0 ?_
                · go_simp
                simp only [List.getElem_toArray, List.getElem_cons_succ, List.getElem_cons_zero, Act.put, List.setIfInBounds_toArray, List.set_cons_zero, List.set_cons_succ]
                refine wpAnyH_ready (rs := [1]) (by kernel_rfl) (by simp) ?_
                refine AllReadyH.cons rfl (fun K hK => ?_) AllReadyH.nil
                go_simp
                refine HK133.out.mono ?_
                rintro e w1 ⟨v1, rfl, o1, b1⟩
                have hs1 := HS.out w1 (((Below.refl _ _).drew).trans b1)
                obtain ⟨A1, c1, rfl, r1⟩ := o1.rd
                have hc1 := conv_bytes (W := w1) (c := c1) (enc_byte8 m) r1 (ownA8 o1)
                have HB := Lib.hid b1
                clear o1 b1 r1
                refine Shut.out hK _ _ hs1 (fun _ => ?_)
                clear hK K
                refine wpAnyH_ready (rs := [2]) (by kernel_rfl) (by simp) ?_
                refine AllReadyH.cons rfl (fun K hK => ?_) AllReadyH.nil
                go_simp
                refine Shut.out hK _ _ hs1 (fun _ => ?_)
                clear hK K
                refine wpAnyH_take (i := 9) (v := .bool true) rfl (by kernel_rfl) (by kernel_rfl) (by kernel_rfl) (fun _ _ _ h => h) (Or.inl ⟨by kernel_rfl, fun w' hSw => ?_⟩) hs1 ?_
                · go_simp
                simp only [List.getElem_toArray, List.getElem_cons_succ, List.getElem_cons_zero, Act.put, List.setIfInBounds_toArray, List.set_cons_zero, List.set_cons_succ]
                refine wpAnyH_done (by kernel_rfl) ?_ _
                go_wp2_with (fail)
                exact bodyPost_ret (v := .tuple #[.int .i64 0, .int .i64 0, .bool false]) (by simp [results, Tryd.results152, go_sem]) rfl
                  ⟨(Below.refl _ _).drew.trans HB.out, 0, 0, false, by simp, fun h => (by cases h), fun _ => HRI.out.1.2 HNE.out⟩
        · have hge : (x : Int) ≥ 128 := by omega
          go_wp2_with (fail)
          go_round
          case rel => exact ⟨i + 1, by omega, by omega, by omega, by go_num, fun j y hj hy => by
            by_cases hji : j < i - p
            · exact HH.out j y hji hy
            · obtain rfl : j = i - p := by omega
              rw [HX.out.2] at hy
              injection hy with hy
              omega⟩
          case measure => simp [intOf]; omega
      · go_wp2_with (fail)
        exact bodyPost_ret (v := .tuple #[.int .i64 0, .int .i64 0, .bool false]) (by simp [results, Tryd.results152, go_sem]) rfl
          ⟨Below.refl _ _, 0, 0, false, by simp, fun h => (by cases h), fun _ => ref_none (k := i - p) HH.out (by rw [List.length_drop, ← HN.out]; omega) (by omega) (.inl (by omega))⟩
    · go_wp2_with (fail)
      exact bodyPost_ret (v := .tuple #[.int .i64 0, .int .i64 0, .bool false]) (by simp [results, Tryd.results152, go_sem]) rfl
        ⟨Below.refl _ _, 0, 0, false, by simp, fun h => (by cases h), fun _ => ref_none (k := i - p) HH.out (by rw [List.length_drop, ← HN.out]; omega) (by omega) (.inr (by rw [List.length_drop, ← HN.out]; omega))⟩
end Go.Proofs.YtnlncfjibbdimaaDoor
namespace Go.Proofs.YtnlncfjibbdimaaDoor
open Go.RowKit
set_option linter.unusedSimpArgs false
set_option linter.unusedVariables false
structure DS (bs : List Nat) (c : Nat) : Prop where
  hl : bs.length ≤ 140737488355328
  hc : bs.length ≤ c ∧ c ≤ 9223372036854775807
  h256 : ∀ x ∈ bs, x < 256
section
variable {w w' : World} {hi g c p q : Nat} {bs : List Nat} {A : Option Addr}
theorem DRd.moved_fr (h : DRd w hi g bs A c p) : Fr w.heap.size (fun k => k = g) w (w.setCell ⟨g, 1, none⟩ (.int .i64 q)) := (Fr.refl w.heap.size (fun k => k = g) w).setCell (p := ⟨g, 1, none⟩) (.inl rfl) _
end
/-- What the document's Num answers. -/
def RNumPost (bs : List Nat) (A : Option Addr) (c hi g p most : Nat) (w : World) (e : Ending) (w' : World) : Prop :=
  (∃ n q, dec (bs.drop p) = some (n, bs.drop q) ∧ n ≤ most ∧ e = .returned (.tuple #[.int .i64 n, .int .i64 0]) ∧ DRd w' hi g bs A c q ∧ Fr w.heap.size (fun k => k = g) w w') ∨
  ((∀ n r, dec (bs.drop p) = some (n, r) → most < n) ∧ e = .returned (.tuple #[.int .i64 0, .int .i64 5]) ∧ DRd w' hi g bs A c p ∧ Fr w.heap.size (fun k => k = g) w w')
set_option maxRecDepth 100000 in
set_option maxHeartbeats 1600000 in
theorem rNum_any (w : World) (hi g p c most : Nat) (A : Option Addr) (bs : List Nat) (h : DRd w hi g bs A c p) (hs : DS bs c) (hm : most ≤ 140737488355328) :
    Calls Tryd.prog 139 #[.pointer (some ⟨g, 0, none⟩), .int .i64 most] w (RNumPost bs A c hi g p most w) := by
  have k152 := rread_any w.drew hi p c A bs h.drew.2.1 h.drew.le hs.hl h.2.2.2 hs.hc hs.h256
  have HK := Lib.hid k152
  have HD := Lib.hid h.drew
  have c0 := h.1.cell 0
  have c1 := h.1.cell 1
  clear k152 h
  go_enter Tryd.func139, Tryd.ntmps139
  go_upto_region 1 with (fail)
  go_region_held3 (fun w' => w'.cell? ⟨g, 0, none⟩ = some (.slice A bs.length c) ∧ w'.cell? ⟨g, 1, none⟩ = some (.int .i64 p)) (go_keep)
    (first | (go_at_call 152; refine HK.out.mono ?_; rintro e w1 ⟨b1, n, q, ok, rfl, h3, h4⟩; have D1 := HD.out.below b1; have d0 := D1.1.cell 0; have d1 := D1.1.cell 1; have f1 := D1.1.frozen; have H1 := Lib.hid (And.intro D1 (Fr.of_below b1 (fun k => k = g))); have H3 := Lib.hid h3; have H4 := Lib.hid h4; clear D1 b1 h3 h4))
  have hfw : Fr w.heap.size (fun k => k = g) w w1 := (Fr.refl w.heap.size (fun k => k = g) w).drew.trans H1.out.2
  have HF := Lib.hid hfw
  clear hfw
  cases ok with
  | false =>
    have H5 := Lib.hid (H4.out rfl)
    clear H3 H4
    go_wp2_with (fail)
    go_ret2
    exact .inr ⟨fun n' r hh => (by rw [H5.out] at hh; cases hh), rfl, H1.out.1, HF.out⟩
  | true =>
    obtain ⟨h5, h6, h7⟩ := H3.out rfl
    have H5 := Lib.hid h5
    clear H3 H4 h5
    by_cases hgt : (n : Int) > (most : Int)
    · go_wp2_with (fail)
      go_ret2
      exact .inr ⟨fun n' r hh => (by rw [H5.out] at hh; injection hh with hh; injection hh with hh _; omega), rfl, H1.out.1, HF.out⟩
    · go_wp2_with (fail)
      go_ret2
      exact .inl ⟨n, q, H5.out, by omega, rfl, H1.out.1.moved h6, HF.out.trans (H1.out.1.moved_fr.mono HF.out.size (fun _ _ h => h))⟩
theorem pText_of (R : List Nat) : pText R = (pBytes 200 R).bind fun x => some (textOf x.1, x.2) := by
  unfold pText pBytes
  cases dec R with
  | none => rfl
  | some x =>
    obtain ⟨n, r⟩ := x
    by_cases h : n ≤ 200 ∧ n ≤ r.length
    · simp only [h, and_self, if_true, Option.bind_some]
    · simp only [h, if_false, Option.bind_none]
def RBytesPost (bs : List Nat) (A : Option Addr) (c hi g p most : Nat) (w : World) (e : Ending) (w' : World) : Prop :=
  (∃ xs q A' c', pBytes most (bs.drop p) = some (xs, bs.drop q) ∧ e = .returned (.tuple #[.slice A' xs.length c', .int .i64 0]) ∧ OwnB w' w.heap.size (.slice A' xs.length c') xs ∧ DRd w' hi g bs A c q ∧ Fr w.heap.size (fun k => k = g) w w') ∨
  (pBytes most (bs.drop p) = none ∧ e = .returned (.tuple #[.slice none 0 0, .int .i64 5]) ∧ DRd w' hi g bs A c p ∧ Fr w.heap.size (fun k => k = g) w w')
theorem app8 {o : Oper} {a : Act} {W : World} {K : Act → World → Prop} {Q : Exit → Act → World → Prop} (s x : Operand) (lo lo1 hi1 : Nat) (v : Value) (bs cs : List Nat) (A : Option Addr) (c : Nat) (ho : o.op = .call { callee := .builtin .append, args := #[s, x], argTypes := #[84, 84] })
    (hs : a.eval s = v) (hO : OwnB W lo v bs) (hx : a.eval x = .slice A cs.length c) (hr : Rd W lo1 hi1 1 A cs.length (u8s cs)) (hl : bs.length + cs.length ≤ 140737488355328) (hlo : lo ≤ W.heap.size)
    (h : ∀ A' c' W', OwnB W' lo (.slice A' (bs.length + cs.length) c') (bs ++ cs) → BFr lo W W' → K (a.put o.dst (.slice A' (bs.length + cs.length) c')) W') : o.wp Tryd.prog a W K Q := by
  obtain ⟨i0, hi0, hz0, hz1, hz2⟩ := info_parts8 u8_info
  refine wp_append_any _ s x 84 ho lo 5 i0 _ 1 1 Tryd.underlying84 hi0 hz0 hz1 hz2 rfl (by decide) v bs.length (u8s bs) hs hO.2.2 lo1 hi1 A cs.length c (u8s cs) hx hr (u8s_oneCell cs) (by simp only [maxLen]; omega) (by omega) hlo ?_
  intro v1 w1 hown1 hg1 hat1
  have hO1 : OwnRow w1 lo w1.heap.size 5 1 v1 (bs.length + cs.length) (u8s bs ++ u8s cs) := ⟨hown1, fun g hg => (hown1.lt g hg).2⟩
  obtain ⟨A1, c1, hv1, _⟩ := hO1.form
  subst hv1
  have hlen : (bs ++ cs).length = bs.length + cs.length := List.length_append
  have e8 : u8s (bs ++ cs) = u8s bs ++ u8s cs := by simp [u8s]
  have hb : Below lo W w1 := (Below.refl lo W).grown hg1 hlo (fun k hk => (hO.2.2.lt k hk).1)
  have hf : Fr W.heap.size (BS W) W w1 := (Fr.refl W.heap.size (BS W) W).grown hg1 (Nat.le_refl _) (fun k hk => .inl (own_blk hO.2.2 hk))
  exact h A1 c1 w1 ⟨⟨A1, c1, by rw [hlen]⟩, by rw [hlen]; exact hl, by rw [hlen, e8]; exact hown1⟩ ⟨hb, hf⟩
end Go.Proofs.YtnlncfjibbdimaaDoor
namespace Go.Proofs.YtnlncfjibbdimaaDoor
open Go.RowKit
set_option linter.unusedSimpArgs false
set_option linter.unusedVariables false
theorem pBytes_none {most : Nat} {R : List Nat} (h : ∀ n r, dec R = some (n, r) → most < n ∨ r.length < n) : pBytes most R = none := by
  unfold pBytes
  cases hd : dec R with
  | none => rfl
  | some x =>
    obtain ⟨n, r⟩ := x
    have := h n r hd
    simp only
    rw [if_neg (by omega)]
theorem pBytes_some {most n : Nat} {R r : List Nat} (h : dec R = some (n, r)) (h1 : n ≤ most) (h2 : n ≤ r.length) : pBytes most R = some (r.take n, r.drop n) := by
  unfold pBytes
  rw [h]
  simp only
  rw [if_pos ⟨h1, h2⟩]
set_option maxRecDepth 100000 in
set_option maxHeartbeats 3200000 in
theorem rBytes_any (w : World) (hi g p c most : Nat) (A : Option Addr) (bs : List Nat) (h : DRd w hi g bs A c p) (hs : DS bs c) (hm : most ≤ 140737488355328) :
    Calls Tryd.prog 113 #[.pointer (some ⟨g, 0, none⟩), .int .i64 most] w (RBytesPost bs A c hi g p most w) := by
  have k152 := rread_any w.drew hi p c A bs h.drew.2.1 h.drew.le hs.hl h.2.2.2 hs.hc hs.h256
  have HK := Lib.hid k152
  have HD := Lib.hid h.drew
  have HS := Lib.hid hs
  have hl := hs.hl
  have hc := hs.hc
  have c0 := h.1.cell 0
  have c1 := h.1.cell 1
  clear k152 h hs
  go_enter Tryd.func113, Tryd.ntmps113
  go_upto_region 1 with (fail)
  go_region_held3 (fun w' => w'.cell? ⟨g, 0, none⟩ = some (.slice A bs.length c) ∧ w'.cell? ⟨g, 1, none⟩ = some (.int .i64 p)) (go_keep)
    (first | (go_at_call 152; refine HK.out.mono ?_; rintro e w1 ⟨b1, n, q, ok, rfl, h3, h4⟩; have D1 := HD.out.below b1; have d0 := D1.1.cell 0; have d1 := D1.1.cell 1; have f1 := D1.1.frozen; have H1 := Lib.hid (And.intro D1 (Fr.of_below b1 (fun k => k = g))); have H3 := Lib.hid h3; have H4 := Lib.hid h4; clear D1 b1 h3 h4))
  have hfw : Fr w.heap.size (fun k => k = g) w w1 := (Fr.refl w.heap.size (fun k => k = g) w).drew.trans H1.out.2
  have HF := Lib.hid hfw
  clear hfw
  cases ok with
  | false =>
    have H5 := Lib.hid (H4.out rfl)
    clear H3 H4
    go_wp2_with (fail)
    go_ret2
    exact .inr ⟨pBytes_none (fun n' r hh => (by rw [H5.out] at hh; cases hh)), rfl, H1.out.1, HF.out⟩
  | true =>
    obtain ⟨h5, h6, h7⟩ := H3.out rfl
    have H5 := Lib.hid h5
    clear H3 H4 h5
    by_cases hgt : (n : Int) > (most : Int)
    · go_wp2_with (fail)
      go_ret2
      exact .inr ⟨pBytes_none (fun n' r hh => (by rw [H5.out] at hh; injection hh with hh; injection hh with hh _; omega)), rfl, H1.out.1, HF.out⟩
    · by_cases hgq : (n : Int) > (bs.length : Int) - (q : Int)
      · go_wp2_with (fail)
        go_ret2
        exact .inr ⟨pBytes_none (fun n' r hh => (by rw [H5.out] at hh; injection hh with hh; injection hh with hh hr; rw [← hr, List.length_drop]; omega)), rfl, H1.out.1, HF.out⟩
      · obtain ⟨m, hm2⟩ : ∃ m : Nat, m = q + n := ⟨_, rfl⟩
        have hqm : (q : Int) + (n : Int) = (m : Int) := by omega
        have hml : m ≤ bs.length := by omega
        have hpb := pBytes_some H5.out (most := most) (by omega) (by rw [List.length_drop]; omega)
        obtain ⟨xs, hxs⟩ : ∃ xs, xs = (bs.drop q).take n := ⟨_, rfl⟩
        have hxl : xs.length = n := by rw [hxs, List.length_take, List.length_drop]; omega
        rw [← hxs, List.drop_drop, ← hm2] at hpb
        have hxg : ∀ j x, xs[j]? = some x → bs[q + j]? = some x := fun j x hj => by
          rw [hxs, List.getElem?_take] at hj
          split at hj
          · rw [List.getElem?_drop] at hj; exact hj
          · cases hj
        have h0 : 0 < bs.length := by
          rcases Nat.eq_zero_or_pos bs.length with h0 | h0
          · have := H5.out
            rw [List.eq_nil_of_length_eq_zero h0] at this
            simp [dec, decG_nil] at this
          · exact h0
        obtain ⟨b, o, rfl⟩ := H1.out.1.2.1.addr h0
        have HX := Lib.hid (And.intro hpb (And.intro hxl (And.intro hxg (And.intro hm2 h0))))
        clear hpb hxs hxg hm2 h0
        go_upto_region 5 with (fail)
        refine wp_letter (fun W => DRd W hi g bs (some ⟨b, o, none⟩) c m ∧ Fr w.heap.size (fun k => k = g) w W)
          ⟨H1.out.1.moved (q := m) hml, HF.out.trans ((H1.out.1.moved_fr (q := m)).mono HF.out.size (fun _ _ h => h))⟩ ?_
        rintro W ⟨hD, hF⟩
        have e0 := hD.1.cell 0
        have e1 := hD.1.cell 1
        have H2 := Lib.hid (And.intro hD hF)
        have hqn1 : (0 : Int) ≤ (q : Int) := by omega
        have hqn2 : (q : Int) ≤ (m : Int) := by omega
        have hqn' : (m : Int) ≤ (c : Int) := by omega
        have hmq : m - q = n := by have := HX.out.2.2.2.1; omega
        clear hD hF c0 c1 d0 d1 f1 HK H1 HF
        have hfin : ∀ A2 c2 w2, OwnB w2 W.heap.size (.slice A2 xs.length c2) xs → Below W.heap.size W w2 → RBytesPost bs (some ⟨b, o, none⟩) c hi g p most w (.returned (.tuple #[.slice A2 xs.length c2, .int .i64 0])) w2 := fun A2 c2 w2 ho hb =>
          .inl ⟨xs, m, A2, c2, HX.out.1, rfl, ⟨ho.1, ho.2.1, ownsRow_base ho.2.2 H2.out.2.size⟩, H2.out.1.below hb, H2.out.2.trans ((Fr.of_below hb _).mono H2.out.2.size (fun _ _ h => h))⟩
        have HE := Lib.hid hfin
        have hbA : Below W.heap.size W (W.drew.alloc (.cells #[] 5)) := (Below.refl W.heap.size W).drew.alloc (Nat.le_refl _) _
        have hrd := (H2.out.1.2.1.fr (Fr.of_below hbA (fun _ => False)) H2.out.1.le (fun _ _ _ h => h)).wider (Nat.le_refl _) H2.out.1.le
        have HBA := Lib.hid hbA
        clear hfin hbA
        by_cases hqc : c = q
        · have hn0 : n = 0 := by omega
          have hx0 : xs = [] := List.eq_nil_of_length_eq_zero (by rw [hxl]; exact hn0)
          subst hx0
          obtain rfl : m = q := by omega
          subst hqc
          have HR := Lib.hid (show Rd (W.drew.alloc (.cells #[] 5)) 0 W.heap.size 1 (some ⟨b, o, none⟩) ([] : List Nat).length (u8s []) from ⟨rfl, fun h => absurd h (by simp)⟩)
          clear hrd
          go_region_held3 (fun w' => w'.cell? ⟨g, 0, none⟩ = some (.slice (some ⟨b, o, none⟩) bs.length c) ∧ w'.cell? ⟨g, 1, none⟩ = some (.int .i64 c)) (go_keep)
            (first | (rw [if_pos (by rfl)]; refine app8 (.tmp 46) (.tmp 56) W.heap.size 0 W.heap.size _ [] [] (some ⟨b, o, none⟩) 0 rfl rfl (OwnB.made W.drew) rfl HR.out (by simp) (by simp) ?_; simp only [List.length_nil, Nat.zero_add, List.nil_append]; intro A2 c2 W2 o2 f2; have D2 := H2.out.1.below (HBA.out.trans f2.1); have g0 := D2.1.cell 0; have g1 := D2.1.cell 1; have HO2 := Lib.hid (And.intro o2 (HBA.out.trans f2.1)); clear o2 f2 D2))
          go_wp2_with (fail)
          go_ret2
          exact HE.out A2 c2 W2 HO2.out.1 HO2.out.2
        · have hqc' : ¬ (c : Int) = q := by omega
          have HXL := Lib.hid hxl
          clear hxl
          have HR := Lib.hid (hrd.sub (p := q) (xs := xs) HX.out.2.2.1)
          clear hrd
          go_region_held3 (fun w' => w'.cell? ⟨g, 0, none⟩ = some (.slice (some ⟨b, o, none⟩) bs.length c) ∧ w'.cell? ⟨g, 1, none⟩ = some (.int .i64 m)) (go_keep)
            (first | (rw [if_pos (by rfl)]; refine app8 (.tmp 46) (.tmp 56) W.heap.size 0 W.heap.size _ [] xs (some ⟨b, o + q, none⟩) (c - q) rfl rfl (OwnB.made W.drew) (by rw [HXL.out]; rfl) HR.out (by have := HXL.out; simp; omega) (by simp) ?_; simp only [List.length_nil, Nat.zero_add, List.nil_append]; intro A2 c2 W2 o2 f2; have D2 := H2.out.1.below (HBA.out.trans f2.1); have g0 := D2.1.cell 0; have g1 := D2.1.cell 1; have HO2 := Lib.hid (And.intro o2 (HBA.out.trans f2.1)); clear o2 f2 D2))
          go_wp2_with (fail)
          go_ret2
          exact HE.out A2 c2 W2 HO2.out.1 HO2.out.2
end Go.Proofs.YtnlncfjibbdimaaDoor
namespace Go.Proofs.YtnlncfjibbdimaaDoor
open Go.RowKit
set_option linter.unusedSimpArgs false
set_option linter.unusedVariables false
section
variable {ops : Array Oper} {rest : List Oper} {o : Oper} {a : Act} {W : World} {Q : Exit → Act → World → Prop}
/-- append(s, v) for a row of ints of the call's own and one new int. -/
theorem law_append3 (s x : Operand) (lo c n : Nat) (A : Option Addr) (xs : List Int) (v : Int) (hgd : o.guard = none) (hn : n = xs.length)
    (ho : o.op = .call { callee := .builtin .append, args := #[s, x], argTypes := #[40, 40] }) (hs : a.eval s = .slice A n c) (hO : OwnInts W lo W.heap.size (.slice A xs.length c) xs) (hlo : lo ≤ W.heap.size)
    (hx : a.eval x = .slice (some ⟨W.heap.size, 0, none⟩) 1 1) (hl : xs.length ≤ 1000)
    (h : ∀ A' c' W', OwnInts W' lo W'.heap.size (.slice A' (n + 1) c') (xs ++ [v]) → (∀ (y : Nat) (t : TypeId) (cs : Array Value), t ≠ 3 → Blk W y t cs → Blk W' y t cs) →
      (∀ (B : Nat) (S : Nat → Prop) (w0 : World), B ≤ lo → Fr B S w0 W → Fr B S w0 W') → wpList Tryd.prog ops Q rest (a.put o.dst (.slice A' (n + 1) c')) W') : wpList Tryd.prog ops Q (o :: rest) a (W.alloc (.cells #[.int .i64 v] 3)) :=
  wpList_plain hgd fun _ hK => app3 s x lo c n A xs v hn ho hs hO hlo hx hl fun A' c' W' h1 h2 _ h4 => hK _ _ (h A' c' W' h1 h2 h4)
end
theorem pNum_of {R r : List Nat} {n : Nat} (h : dec R = some (n, r)) (hn : n ≤ 1099511627776) : pNum R = some (n, r) := by
  unfold pNum
  rw [h]
  simp only
  rw [if_pos hn]
theorem pNum_off {R : List Nat} (h : ∀ n r, dec R = some (n, r) → 1099511627776 < n) : pNum R = none := by
  unfold pNum
  cases hd : dec R with
  | none => rfl
  | some x =>
    obtain ⟨n, r⟩ := x
    have := h n r hd
    simp only
    rw [if_neg (by omega)]
/-- What take answers. -/
def TakePost (n : Nat) (bs : List Nat) (A : Option Addr) (c hi g p : Nat) (w : World) (e : Ending) (w' : World) : Prop :=
  ∃ q, DRd w' hi g bs A c q ∧ Fr w.heap.size (fun k => k = g) w w' ∧
    ((∃ xs A' c', pNums n (bs.drop p) = some (xs, bs.drop q) ∧ e = .returned (.tuple #[.slice A' xs.length c', .bool true]) ∧ OwnInts w' w.heap.size w'.heap.size (.slice A' xs.length c') xs) ∨
     (pNums n (bs.drop p) = none ∧ e = .returned (.tuple #[.slice none 0 0, .bool false])))
set_option maxRecDepth 100000 in
set_option maxHeartbeats 3200000 in
theorem take_any (w : World) (hi g p c n : Nat) (A : Option Addr) (bs : List Nat) (h : DRd w hi g bs A c p) (hs : DS bs c) (hn : n ≤ 17) :
    Calls Tryd.prog 112 #[.pointer (some ⟨g, 0, none⟩), .int .i64 n] w (TakePost n bs A c hi g p w) := by
  have HD := Lib.hid (And.intro h hs)
  have hn17 : (n : Int) ≤ 17 := by omega
  clear h hs
  go_enter Tryd.func112, Tryd.ntmps112
  go_wp2_with (fail)
  go_loopw [6] (fun o wr => ∃ (k : Nat) (A' : Option Addr) (c' : Nat) (xs : List Int) (q : Nat), k ≤ n ∧ o = .slice A' k c' ∧ xs.length = k ∧ pNums k (bs.drop p) = some (xs, bs.drop q) ∧
    OwnInts wr w.heap.size wr.heap.size (.slice A' xs.length c') xs ∧ DRd wr hi g bs A c q ∧ Fr w.heap.size (fun k => k = g) w wr) (fun o _ => n - (match o with | .slice _ k _ => k | _ => 0))
  case atStart =>
    refine ⟨0, _, 0, [], p, Nat.zero_le _, rfl, rfl, rfl, ?_, HD.out.1.below ((Below.refl w.heap.size w).alloc (Nat.le_refl _) _), (Fr.refl _ _ _).alloc (Nat.le_refl _) _⟩
    exact ⟨⟨⟨rfl, .inr ⟨w.heap.size, 0, #[], rfl, Nat.le_refl _, heap_alloc_new w _, Nat.le_refl _, Nat.zero_le _, rfl, rfl⟩⟩, fun g hg => by simp [Value.ownBlock] at hg; subst hg; simp⟩, by simp⟩
  case round =>
    obtain ⟨k, A', c', xs, q, hk, rfl, hxl, hxs, hO, hR, hF⟩ := hrel
    have HS := Lib.hid (And.intro hO (And.intro hR (And.intro hF (And.intro hxl hxs))))
    have hkn : (k : Int) ≤ n := by omega
    by_cases hlt : (k : Int) < n
    · have k139 := rNum_any wr hi g q c 1099511627776 A bs hR HD.out.2 (by omega)
      have HK := Lib.hid k139
      clear k139 hO hR hF hxs hxl
      go_upto_region 3 with (fail)
      go_upto_region 4 with (first | (go_at_call 139; refine HK.out.mono ?_; rintro e w1 (⟨v, q1, h1, h2, rfl, h4, h5⟩ | ⟨h1, rfl, h4, h5⟩)) | fail)
      · have hgl := HD.out.1.1.lt
        have hF1 := HS.out.2.2.1.trans (h5.mono HS.out.2.2.1.size (fun _ _ h => h))
        have hO1 := OwnInts.wider (OwnInts.fr HS.out.1 h5 (Nat.le_refl _) (fun k h1 h2 h3 => by omega)) (Nat.le_refl _) h5.size
        have H1 := Lib.hid (And.intro hO1 (And.intro h4 (And.intro hF1 (And.intro h1 h2))))
        have HXL := Lib.hid (show k = xs.length from HS.out.2.2.2.1.symm)
        have hk1000 : xs.length ≤ 1000 := by rw [HS.out.2.2.2.1]; omega
        have HK1000 := Lib.hid hk1000
        clear hO1 h4 hF1 h1 h2 h5 hk1000
        go_wp2_with (at_builtin
                     refine law_append3 (.tmp 21) (.tmp 23) w.heap.size c' k A' xs v rfl HXL.out rfl rfl H1.out.1 H1.out.2.2.1.size rfl HK1000.out ?_
                     intro A2 c2 W2 o2 p2 p4
                     have F2 := p4 _ _ _ (Nat.le_refl _) H1.out.2.2.1
                     have D2 : DRd W2 hi g bs A c q1 := ⟨p2 _ _ _ (by decide) H1.out.2.1.1, HD.out.1.2.1.fr F2 HD.out.1.le (fun k _ hk he => by have := HD.out.1.2.2.1; omega), H1.out.2.1.2.2⟩
                     have H2 := Lib.hid (And.intro o2 (And.intro D2 F2))
                     clear o2 p2 p4 F2 D2)
        go_roundw
        case rel => exact ⟨k + 1, A2, c2, xs ++ [(v : Int)], q1, by omega, rfl, by rw [List.length_append, HS.out.2.2.2.1]; rfl, pNums_snoc HS.out.2.2.2.2 (pNum_of H1.out.2.2.2.1 H1.out.2.2.2.2), by rw [List.length_append, HS.out.2.2.2.1]; exact H2.out.1, H2.out.2.1, H2.out.2.2⟩
        case measure => simp; omega
      · have hF1 := HS.out.2.2.1.trans (h5.mono HS.out.2.2.1.size (fun _ _ h => h))
        have H1 := Lib.hid (And.intro h4 (And.intro hF1 h1))
        clear h4 h5 hF1 h1
        go_wp2_with (fail)
        go_ret2
        exact ⟨q, H1.out.1, H1.out.2.1, .inr ⟨pNums_stop HS.out.2.2.2.2 (pNum_off H1.out.2.2) (by omega), rfl⟩⟩
    · have hkn' : k = n := by omega
      subst hkn'
      clear hO hR hF hxs
      go_wp2_with (fail)
      go_ret2
      rw [← HS.out.2.2.2.1]
      exact ⟨q, HS.out.2.1, HS.out.2.2.1, .inl ⟨xs, A', c', by rw [HS.out.2.2.2.1]; exact HS.out.2.2.2.2, rfl, HS.out.1⟩⟩
set_option maxRecDepth 100000 in
set_option maxHeartbeats 1600000 in
theorem rId_any (w : World) (b o n c : Nat) (x y z : Int) (hn : 3 ≤ n) (h0 : w.cell? ⟨b, o, none⟩ = some (.int .i64 x)) (h1 : w.cell? ⟨b, o + 1, none⟩ = some (.int .i64 y)) (h2 : w.cell? ⟨b, o + 2, none⟩ = some (.int .i64 z)) :
    Calls Tryd.prog 114 #[.slice (some ⟨b, o, none⟩) n c] w fun e w' => e = .returned (.agg #[.int .i64 x, .int .i64 y, .int .i64 z]) ∧ Below w.heap.size w w' := by
  have hb := World.block_lt_of_cell? w _ h0
  have hn1 : (0 : Int) < n := by omega
  have hn2 : (1 : Int) < n := by omega
  have hn3 : (2 : Int) < n := by omega
  have hm1 : 0 < n := by omega
  have hm2 : 1 < n := by omega
  have hm3 : 2 < n := by omega
  have hY := Blk.new w 74 #[.int .i64 0, .int .i64 0, .int .i64 0]
  have hB : Below w.heap.size w (w.alloc (.cells #[.int .i64 0, .int .i64 0, .int .i64 0] 74)) := (Below.refl w.heap.size w).alloc (Nat.le_refl _) _
  have g0 := (hB.cell hb).trans h0
  have g1 := (hB.cell (p := ⟨b, o + 1, none⟩) hb).trans h1
  have g2 := (hB.cell (p := ⟨b, o + 2, none⟩) hb).trans h2
  have hne : w.heap.size ≠ b := Nat.ne_of_gt hb
  go_enter Tryd.func114, Tryd.ntmps114
  go_upto_region 1 with (fail)
  refine wp_letter (fun W => Below w.heap.size w W ∧ Blk W w.heap.size 74 #[.int .i64 0, .int .i64 0, .int .i64 0] ∧ W.cell? ⟨b, o, none⟩ = some (.int .i64 x) ∧ W.cell? ⟨b, o + 1, none⟩ = some (.int .i64 y) ∧ W.cell? ⟨b, o + 2, none⟩ = some (.int .i64 z)) ⟨hB, hY, g0, g1, g2⟩ ?_
  obtain ⟨k, hk⟩ : ∃ k, k = w.heap.size := ⟨_, rfl⟩
  rw [← hk] at hne ⊢
  have HKk := Lib.hid hk
  clear hY hB g0 g1 g2 hk h0 h1 h2
  rintro W ⟨hb', hY, g0, g1, g2⟩
  have yc := hY.cell
  have fy := hY.frozen
  have HB := Lib.hid hb'
  have HY := Lib.hid hY
  clear hb' hY
  go_region_held3 (fun w' => w'.cell? ⟨b, o, none⟩ = some (.int .i64 x) ∧ w'.cell? ⟨b, o + 1, none⟩ = some (.int .i64 y) ∧ w'.cell? ⟨b, o + 2, none⟩ = some (.int .i64 z)) (go_keep) (fail)
  have hE := (((HB.out.setCell (p := ⟨k, 0, none⟩) (Nat.le_refl _) (.int .i64 x)).setCell (p := ⟨k, 1, none⟩) (Nat.le_refl _) (.int .i64 y)).setCell (p := ⟨k, 2, none⟩) (Nat.le_refl _) (.int .i64 z)).drew
  have HE := Lib.hid (hE.mono (Nat.le_of_eq HKk.out.symm))
  clear hE
  go_wp2_with (fail)
  exact bodyPost_ret (v := .agg #[.int .i64 x, .int .i64 y, .int .i64 z]) (by simp [results, Tryd.results114, go_sem, yc]) rfl ⟨rfl, HE.out⟩
end Go.Proofs.YtnlncfjibbdimaaDoor
namespace Go.Proofs.YtnlncfjibbdimaaDoor
open Go.RowKit
set_option linter.unusedSimpArgs false
set_option linter.unusedVariables false
theorem pNums_len : ∀ {n : Nat} {R r : List Nat} {xs : List Int}, pNums n R = some (xs, r) → xs.length = n
  | 0, R, r, xs, h => by
    injection h with h
    injection h with h1 h2
    subst h1
    rfl
  | n + 1, R, r, xs, h => by
    obtain ⟨⟨a, R1⟩, h1, h⟩ := bind_some_inv h
    obtain ⟨⟨ys, R2⟩, h2, h⟩ := bind_some_inv h
    injection h with h
    injection h with h4 h5
    subst h4
    rw [List.length_cons, pNums_len h2]
theorem pNums_uncons {n : Nat} {R r : List Nat} {xs : List Int} (h : pNums (n + 1) R = some (xs, r)) : ∃ a R1 ys, pNum R = some (a, R1) ∧ pNums n R1 = some (ys, r) ∧ xs = (a : Int) :: ys := by
  obtain ⟨⟨a, R1⟩, h1, h⟩ := bind_some_inv h
  obtain ⟨⟨ys, R2⟩, h2, h⟩ := bind_some_inv h
  injection h with h
  injection h with h4 h5
  subst h4 h5
  exact ⟨a, R1, ys, h1, h2, rfl⟩
theorem pNums_zero {R r : List Nat} {xs : List Int} (h : pNums 0 R = some (xs, r)) : xs = [] ∧ R = r := by
  injection h with h
  injection h with h1 h2
  exact ⟨h1.symm, h2⟩
theorem pId_parts {R r : List Nat} {i : Nat × Nat × Nat} (h : pId R = some (i, r)) : ∃ R1 R2, pNum R = some (i.1, R1) ∧ pNum R1 = some (i.2.1, R2) ∧ pNum R2 = some (i.2.2, r) := by
  obtain ⟨⟨a, R1⟩, h1, h⟩ := bind_some_inv h
  obtain ⟨⟨b, R2⟩, h2, h⟩ := bind_some_inv h
  obtain ⟨⟨c, R3⟩, h3, h⟩ := bind_some_inv h
  injection h with h
  injection h with h4 h5
  subst h4 h5
  exact ⟨R1, R2, h1, h2, h3⟩
theorem pText_bytes {most : Nat} {R r xs : List Nat} (hm : most ≤ 200) (h : pBytes most R = some (xs, r)) : pText R = some (textOf xs, r) := by
  obtain ⟨n, r', h1, h2, h3, rfl, rfl⟩ := pBytes_inv h
  unfold pText
  rw [h1]
  simp only
  rw [if_pos ⟨by omega, h3⟩]
theorem pBytes_text {most : Nat} {R r : List Nat} {s : ByteArray} (hR : ∀ x ∈ R, x < 256) (h : pText R = some (s, r)) (hs : s.size ≤ most) : pBytes most R = some (bytesN s, r) := by
  rw [pText_of] at h
  obtain ⟨⟨xs, r1⟩, h1, h⟩ := bind_some_inv h
  injection h with h
  injection h with h2 h3
  subst h2 h3
  obtain ⟨n, r', e1, e2, e3, rfl, rfl⟩ := pBytes_inv h1
  have hr' := dec_rest hR e1
  have hb : bytesN (textOf (r'.take n)) = r'.take n := bytesN_textOf (fun x hx => hr' x (List.mem_of_mem_take hx))
  have hl : (textOf (r'.take n)).size = n := by
    rw [← bytesN_length, hb, List.length_take]
    omega
  rw [hb]
  exact pBytes_some e1 (by rw [← hl]; exact hs) e3
theorem chk_small {c : Cmd} (h : chkB c = true) : c.bucket.size ≤ 63 ∧ c.etag.size ≤ 64 := by
  have hg := chk_rng h
  refine ⟨?_, hg.etag⟩
  unfold chkB at h
  simp only [Bool.and_eq_true] at h
  obtain ⟨⟨⟨⟨⟨⟨⟨⟨⟨h0, h1⟩, h2⟩, h3⟩, h4⟩, h5⟩, h6⟩, h7⟩, h8⟩, h9⟩ := h
  rcases eith_or h2 with h | h
  · simp only [gbC, Bool.and_eq_true, decide_eq_true_eq] at h
    omega
  · have := empty_size h
    omega
/-- What the document reads where a command in form is there. -/
theorem dparse {L0 R : List Nat} {c : Cmd} (hR : ∀ x ∈ L0, x < 256) (h : pCmd L0 = some (c, R)) (hc : chkB c = true) :
    ∃ (M1 M2 M3 M4 M5 M6 M7 : List Nat) (n : Nat), pNums 4 L0 = some ([c.kind, c.idn, c.idb, c.ids], M1) ∧ pBytes 63 M1 = some (bytesN c.bucket, M2) ∧ pBytes 200 M2 = some (bytesN c.key, M3) ∧
      pNums 7 M3 = some ([c.upn, c.upb, c.ups, c.pbn, c.pbb, c.pbs, c.psize], M4) ∧ pBytes 64 M4 = some (bytesN c.etag, M5) ∧ pNums 2 M5 = some ([c.part, (n : Int)], M6) ∧ n ≤ 16 ∧ pNums n M6 = some (c.parts, M7) ∧ pNums 2 M7 = some ([c.time, c.days], R) := by
  have hsm := chk_small hc
  have hpl := (chk_rng hc).parts.2
  obtain ⟨⟨k, L1⟩, h0, h⟩ := bind_some_inv h
  obtain ⟨⟨i, L2⟩, h1, h⟩ := bind_some_inv h
  obtain ⟨⟨b, L3⟩, h2, h⟩ := bind_some_inv h
  obtain ⟨⟨ke, L4⟩, h3, h⟩ := bind_some_inv h
  obtain ⟨⟨u, L5⟩, h4, h⟩ := bind_some_inv h
  obtain ⟨⟨p, L6⟩, h5, h⟩ := bind_some_inv h
  obtain ⟨⟨s, L7⟩, h6, h⟩ := bind_some_inv h
  obtain ⟨⟨e, L8⟩, h7, h⟩ := bind_some_inv h
  obtain ⟨⟨pt, L9⟩, h8, h⟩ := bind_some_inv h
  obtain ⟨⟨n, L10⟩, h9, h⟩ := bind_some_inv h
  obtain ⟨⟨ps, L11⟩, h10, h⟩ := bind_some_inv h
  obtain ⟨⟨t, L12⟩, h11, h⟩ := bind_some_inv h
  obtain ⟨⟨d, L13⟩, h12, h⟩ := bind_some_inv h
  injection h with h
  injection h with h13 h14
  subst h13 h14
  simp only at h1 h2 h3 h4 h5 h6 h7 h8 h9 h10 h11 h12 hsm hpl ⊢
  obtain ⟨_, _, q0⟩ := pNum_inv hR h0
  obtain ⟨_, _, q1⟩ := pId_inv q0 h1
  obtain ⟨_, z2, q2⟩ := pText_inv q1 h2
  obtain ⟨_, z3, q3⟩ := pText_inv q2 h3
  obtain ⟨_, _, q4⟩ := pId_inv q3 h4
  obtain ⟨_, _, q5⟩ := pId_inv q4 h5
  obtain ⟨_, _, q6⟩ := pNum_inv q5 h6
  have hl10 := pNums_len h10
  have hn : min n 17 = n ∧ n ≤ 16 := by omega
  rw [hn.1] at h10
  obtain ⟨A1, A2, a1, a2, a3⟩ := pId_parts h1
  obtain ⟨B1, B2, b1, b2, b3⟩ := pId_parts h4
  obtain ⟨C1, C2, c1, c2, c3⟩ := pId_parts h5
  exact ⟨L2, L3, L4, L7, L8, L10, L11, n, pNums_cons h0 (pNums_cons a1 (pNums_cons a2 (pNums_cons a3 rfl))), pBytes_text q1 h2 hsm.1, pBytes_text q2 h3 z3,
    pNums_cons b1 (pNums_cons b2 (pNums_cons b3 (pNums_cons c1 (pNums_cons c2 (pNums_cons c3 (pNums_cons h6 rfl)))))), pBytes_text q6 h7 hsm.2, pNums_cons h8 (pNums_cons h9 rfl), hn.2, h10, pNums_cons h11 (pNums_cons h12 rfl)⟩
/-- Where the document has read all, the program reads the same. -/
theorem dparse_conv {L0 M1 M2 M3 M4 M5 M6 M7 R : List Nat} {xs1 xs4 xs6 xs7 xs8 : List Int} {b2 b3 b5 : List Nat} (h1 : pNums 4 L0 = some (xs1, M1)) (h2 : pBytes 63 M1 = some (b2, M2)) (h3 : pBytes 200 M2 = some (b3, M3))
    (h4 : pNums 7 M3 = some (xs4, M4)) (h5 : pBytes 64 M4 = some (b5, M5)) (h6 : pNums 2 M5 = some (xs6, M6)) (n : Nat) (hn : xs6[1]? = some (n : Int)) (hn16 : n ≤ 16) (h7 : pNums n M6 = some (xs7, M7)) (h8 : pNums 2 M7 = some (xs8, R)) :
    ∃ c : Cmd, pCmd L0 = some (c, R) ∧ xs1 = [c.kind, c.idn, c.idb, c.ids] ∧ c.bucket = textOf b2 ∧ c.key = textOf b3 ∧ xs4 = [c.upn, c.upb, c.ups, c.pbn, c.pbb, c.pbs, c.psize] ∧ c.etag = textOf b5 ∧ xs6 = [c.part, (n : Int)] ∧ c.parts = xs7 ∧ xs8 = [c.time, c.days] := by
  obtain ⟨k, K1, y1, e0, h1_, rfl⟩ := pNums_uncons h1
  obtain ⟨i1, K2, y2, e1, h1__, rfl⟩ := pNums_uncons h1_
  obtain ⟨i2, K3, y3, e2, h1___, rfl⟩ := pNums_uncons h1__
  obtain ⟨i3, K4, y4, e3, h1____, rfl⟩ := pNums_uncons h1___
  obtain ⟨rfl, rfl⟩ := pNums_zero h1____
  obtain ⟨u1, U1, z1, f1, h4_, rfl⟩ := pNums_uncons h4
  obtain ⟨u2, U2, z2, f2, h4__, rfl⟩ := pNums_uncons h4_
  obtain ⟨u3, U3, z3, f3, h4___, rfl⟩ := pNums_uncons h4__
  obtain ⟨p1, U4, z4, f4, h4____, rfl⟩ := pNums_uncons h4___
  obtain ⟨p2, U5, z5, f5, h4_____, rfl⟩ := pNums_uncons h4____
  obtain ⟨p3, U6, z6, f6, h4______, rfl⟩ := pNums_uncons h4_____
  obtain ⟨s, U7, z7, f7, h4_______, rfl⟩ := pNums_uncons h4______
  obtain ⟨rfl, rfl⟩ := pNums_zero h4_______
  obtain ⟨pt, V1, v1, g1, h6_, rfl⟩ := pNums_uncons h6
  obtain ⟨m, V2, v2, g2, h6__, rfl⟩ := pNums_uncons h6_
  obtain ⟨rfl, rfl⟩ := pNums_zero h6__
  obtain ⟨t, T1, t1, i4, h8_, rfl⟩ := pNums_uncons h8
  obtain ⟨d, T2, t2, i5, h8__, rfl⟩ := pNums_uncons h8_
  obtain ⟨rfl, rfl⟩ := pNums_zero h8__
  have hm : m = n := by
    simp at hn
    omega
  subst hm
  have h7' : pNums (min m 17) V2 = some (xs7, M7) := by rw [Nat.min_eq_left (by omega)]; exact h7
  have t2' := pText_bytes (by omega) h2
  have t3' := pText_bytes (by omega) h3
  have t5' := pText_bytes (by omega) h5
  refine ⟨{ kind := k, idn := i1, idb := i2, ids := i3, bucket := textOf b2, key := textOf b3, upn := u1, upb := u2, ups := u3, pbn := p1, pbb := p2, pbs := p3, psize := s, etag := textOf b5, part := pt, parts := xs7, time := t, days := d }, ?_, rfl, rfl, rfl, rfl, rfl, rfl, rfl, rfl⟩
  simp only [pCmd, e0, pId_some e1 e2 e3, t2', t3', pId_some f1 f2 f3, pId_some f4 f5 f6, f7, t5', g1, g2, h7', i4, i5, Option.bind_some]
end Go.Proofs.YtnlncfjibbdimaaDoor

namespace Go.Proofs.YtnlncfjibbdimaaDoor
open Go.RowKit
set_option linter.unusedSimpArgs false
set_option linter.unusedVariables false
/-- What the document's Open answers. -/
def ROpenPost (bs : List Nat) (w : World) (e : Ending) (w' : World) : Prop :=
  Below w.heap.size w w' ∧
  ((bs.length < 4 ∧ e = .returned (.tuple #[.slice none 0 0, .int .i64 5])) ∨
   (4 ≤ bs.length ∧ ¬ sealN (bs.take (bs.length - 4)) = bs ∧ e = .returned (.tuple #[.slice none 0 0, .int .i64 6])) ∨
   (∃ xs A' c', bs = sealN xs ∧ e = .returned (.tuple #[.slice A' xs.length c', .int .i64 0]) ∧ OwnB w' w.heap.size (.slice A' xs.length c') xs))
set_option maxRecDepth 100000 in
set_option maxHeartbeats 3200000 in
theorem ropen_any (w : World) (hi c : Nat) (A : Option Addr) (bs : List Nat) (hr : Rd w 0 hi 1 A bs.length (u8s bs)) (hhi : hi ≤ w.heap.size) (hl : bs.length ≤ 140737488351232) (hc : bs.length ≤ c ∧ c ≤ 9223372036854775807) (hA : A = none → c = 0) (h256 : ∀ x ∈ bs, x < 256) :
    Calls Tryd.prog 138 #[.slice A bs.length c] w (ROpenPost bs w) := by
  by_cases h4 : bs.length < 4
  · have hlt : (bs.length : Int) < 4 := by omega
    have HL := Lib.hid h4
    clear hr hhi h256 h4
    go_enter Tryd.func138, Tryd.ntmps138
    go_wp2_with (fail)
    go_ret2
    exact ⟨Below.refl _ _, .inl ⟨HL.out, rfl⟩⟩
  · obtain ⟨m, hm⟩ : ∃ m, m = bs.length - 4 := ⟨_, rfl⟩
    obtain ⟨n, hn⟩ : ∃ n, n = bs.length := ⟨_, rfl⟩
    have hn4 : ¬ (n : Int) < 4 := by omega
    have hnm : (n : Int) - 4 = (m : Int) := by omega
    have hm0 : (0 : Int) ≤ (m : Int) := by omega
    obtain ⟨b, o, rfl⟩ := hr.addr (by omega)
    obtain ⟨xs, hxs⟩ : ∃ xs, xs = bs.take m := ⟨_, rfl⟩
    have hxl : xs.length = m := by rw [hxs, List.length_take]; omega
    have hrx : ∀ W, Below w.heap.size w W → Rd W 0 hi 1 (some ⟨b, o, none⟩) xs.length (u8s xs) := fun W f => by
      have := (hr.fr (Fr.of_below f (fun _ => False)) hhi (fun _ _ _ h => h)).sub (p := 0) (xs := xs) (fun j x hj => by
        rw [hxs, List.getElem?_take] at hj
        split at hj
        · rw [Nat.zero_add]; exact hj
        · cases hj)
      rw [Nat.add_zero] at this
      exact this
    have hx256 : ∀ x ∈ xs, x < 256 := fun x hx => h256 x (by rw [hxs] at hx; exact List.mem_of_mem_take hx)
    have hs256 : ∀ x ∈ sealN xs, x < 256 := fun x hx => by
      rcases List.mem_append.1 hx with h | h
      · exact hx256 x h
      · simp only [be4, List.mem_cons, List.not_mem_nil, or_false] at h
        omega
    have k134 := rseal_any w.drew hi m (some ⟨b, o, none⟩) xs ((hrx w (Below.refl _ _)).keep (fun _ _ _ => rfl)) hhi (by omega) hx256
    rw [hxl] at k134
    have hV : ∀ W, Below w.heap.size w W → (convert 84 9 (.slice (some ⟨b, o, none⟩) bs.length c)).run Tryd.prog W = .ok (.string (textOf bs)) W := fun W f =>
      conv_bytes h256 (hr.fr (Fr.of_below f (fun _ => False)) hhi (fun _ _ _ h => h)) (fun h => by cases h)
    have hq : ((textOf (sealN xs)).toList == (textOf bs).toList) = decide (sealN xs = bs) := textOf_eq hs256 h256
    have H := Lib.hid (And.intro hr (And.intro hhi (And.intro hxs (And.intro hxl (And.intro hm hn)))))
    have HR := Lib.hid (And.intro hrx (And.intro hx256 hs256))
    have HK := Lib.hid k134
    rw [← hn] at hV
    have HV := Lib.hid hV
    have hmc : (m : Int) ≤ c := by omega
    have hmc' : m ≤ c := by omega
    have hl' : m + 4 ≤ 140737488351232 := by omega
    have hs0 := hV w.drew ((Below.refl _ _).drew)
    obtain ⟨q, hqq⟩ : ∃ q, q = decide (sealN xs = bs) := ⟨_, rfl⟩
    rw [← hqq] at hq
    have HQ := Lib.hid hqq
    rw [← hn] at hc ⊢
    clear hr hhi h256 hxs hxl hrx hx256 hs256 k134 hm hn hl hV hqq
    go_enter Tryd.func138, Tryd.ntmps138
    go_upto_region 4 with (fail)
    refine wp_region_held_drew (S := fun w' => Below w.heap.size w w') (by kernel_rfl) ((Below.refl _ _).drew) (fun _ => ?_)
    have hSe : Below w.heap.size w w.drew := (Below.refl _ _).drew
    refine wpAnyH_take (i := 0) (v := .slice (some ⟨b, o, none⟩) n c) rfl (by kernel_rfl) (by kernel_rfl) (by kernel_rfl) (fun _ _ _ h => h) (Or.inl ⟨by kernel_rfl, fun w' hSw => ?_⟩) hSe ?_
    · go_simp
    simp only [List.getElem_toArray, List.getElem_cons_succ, List.getElem_cons_zero, Act.put, List.setIfInBounds_toArray, List.set_cons_zero, List.set_cons_succ]
    refine wpAnyH_take (i := 1) (v := .int .i64 m) rfl (by kernel_rfl) (by kernel_rfl) (by kernel_rfl) (fun _ _ _ h => h) (Or.inl ⟨by kernel_rfl, fun w' hSw => ?_⟩) hSe ?_
    · go_simp
    simp only [List.getElem_toArray, List.getElem_cons_succ, List.getElem_cons_zero, Act.put, List.setIfInBounds_toArray, List.set_cons_zero, List.set_cons_succ]
    refine wpAnyH_take (i := 2) (v := .int .i64 m) rfl (by kernel_rfl) (by kernel_rfl) (by kernel_rfl) (fun _ _ _ h => h) (Or.inl ⟨by kernel_rfl, fun w' hSw => ?_⟩) hSe ?_
    · go_simp
    simp only [List.getElem_toArray, List.getElem_cons_succ, List.getElem_cons_zero, Act.put, List.setIfInBounds_toArray, List.set_cons_zero, List.set_cons_succ]
    refine wpAnyH_take (i := 3) (v := .slice (some ⟨b, o, none⟩) m m) rfl (by kernel_rfl) (by kernel_rfl) (by kernel_rfl) (fun _ _ _ h => h) (Or.inl ⟨by kernel_rfl, fun w' hSw => ?_⟩) hSe ?_
    · go_simp
    simp only [List.getElem_toArray, List.getElem_cons_succ, List.getElem_cons_zero, Act.put, List.setIfInBounds_toArray, List.set_cons_zero, List.set_cons_succ]
    refine wpAnyH_take (i := 6) (v := .slice (some ⟨b, o, none⟩) n c) rfl (by kernel_rfl) (by kernel_rfl) (by kernel_rfl) (fun _ _ _ h => h) (Or.inl ⟨by kernel_rfl, fun w' hSw => ?_⟩) hSe ?_
    · go_simp
    simp only [List.getElem_toArray, List.getElem_cons_succ, List.getElem_cons_zero, Act.put, List.setIfInBounds_toArray, List.set_cons_zero, List.set_cons_succ]
    refine wpAnyH_take (i := 7) (v := .string (textOf bs)) rfl (by kernel_rfl) (by kernel_rfl) (by kernel_rfl) (fun _ _ _ h => h) (Or.inl ⟨by kernel_rfl, fun w' hSw => ?_⟩) hSe ?_
    · (have hcx := HV.out w' hSw; go_simp)
    simp only [List.getElem_toArray, List.getElem_cons_succ, List.getElem_cons_zero, Act.put, List.setIfInBounds_toArray, List.set_cons_zero, List.set_cons_succ]
    refine wpAnyH_ready (rs := [4]) (by kernel_rfl) (by simp) ?_
    refine AllReadyH.cons rfl (fun K hK => ?_) AllReadyH.nil
    go_simp
    refine HK.out.mono ?_
    rintro e w1 ⟨v1, rfl, o1, b1⟩
    have hS1 : Below w.heap.size w w1 := hSe.trans b1
    obtain ⟨A1, c1, rfl, r1⟩ := o1.rd
    have hc1 := conv_bytes (W := w1) (c := c1) HR.out.2.2 r1 (ownA8 o1)
    clear o1 b1 r1
    refine Shut.out hK _ _ hS1 (fun _ => ?_)
    clear hK K
    refine wpAnyH_ready (rs := [5]) (by kernel_rfl) (by simp) ?_
    refine AllReadyH.cons rfl (fun K hK => ?_) AllReadyH.nil
    go_simp
    refine Shut.out hK _ _ hS1 (fun _ => ?_)
    clear hK K
    refine wpAnyH_take (i := 8) (v := .bool (!q)) rfl (by kernel_rfl) (by kernel_rfl) (by kernel_rfl) (fun _ _ _ h => h) (Or.inl ⟨by kernel_rfl, fun w' hSw => ?_⟩) hS1 ?_
    · go_simp
    simp only [List.getElem_toArray, List.getElem_cons_succ, List.getElem_cons_zero, Act.put, List.setIfInBounds_toArray, List.set_cons_zero, List.set_cons_succ]
    refine wpAnyH_done (by kernel_rfl) ?_ _
    have HS1 := Lib.hid hS1
    clear hSe hS1 hc1 hs0
    cases q with
    | false =>
      have hne : ¬ sealN (bs.take (bs.length - 4)) = bs := by
        rw [← H.out.2.2.2.2.1, ← H.out.2.2.1]
        exact of_decide_eq_false HQ.out.symm
      have HNE := Lib.hid hne
      clear hne
      go_wp2_with (fail)
      go_ret2
      exact ⟨HS1.out, .inr (.inl ⟨by have := H.out.2.2.2.2.1; omega, HNE.out, rfl⟩)⟩
    | true =>
      have heq : sealN xs = bs := of_decide_eq_true HQ.out.symm
      have HEQ := Lib.hid heq
      have HRX := Lib.hid ((HR.out.1 w1 HS1.out).fr (Fr.of_below ((Below.refl w1.heap.size w1).alloc (Nat.le_refl _) (.cells #[] 5)) (fun _ => False)) (Nat.le_trans H.out.2.1 HS1.out.size) (fun _ _ _ h => h))
      clear heq
      go_wp2_with (at_builtin
                   refine law_append8 (.tmp 20) (.tmp 23) w1.heap.size 0 hi (.slice (some ⟨w1.heap.size, 0, none⟩) 0 0) [] xs (some ⟨b, o, none⟩) c rfl rfl rfl (OwnB.made w1) (by rw [H.out.2.2.2.1]; rfl) HRX.out (by have := H.out.2.2.2.1; simp; omega) (by simp) ?_
                   simp only [List.length_nil, Nat.zero_add, List.nil_append]
                   intro A2 c2 W2 o2 f2
                   have H2 := Lib.hid (And.intro o2 (((Below.refl w1.heap.size w1).alloc (Nat.le_refl _) (.cells #[] 5)).trans f2.1))
                   clear o2 f2)
      go_ret2
      exact ⟨HS1.out.trans (H2.out.2.mono HS1.out.size), .inr (.inr ⟨xs, A2, c2, HEQ.out.symm, rfl, H2.out.1.1, H2.out.1.2.1, ownsRow_base H2.out.1.2.2 HS1.out.size⟩)⟩
end Go.Proofs.YtnlncfjibbdimaaDoor
