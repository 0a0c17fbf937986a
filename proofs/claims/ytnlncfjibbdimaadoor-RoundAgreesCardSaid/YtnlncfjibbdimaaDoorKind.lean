/-
  The walk of command.kind: which fields a kind has.
-/
import Derived.Test.YtnlncfjibbdimaaDoorChk
namespace Go.Proofs.YtnlncfjibbdimaaDoor
open Go.RowKit
set_option linter.unusedSimpArgs false
set_option linter.unusedVariables false

/-- The fields of a kind: bucket, key, upload, piece, part, parts, time, days. -/
def kindF (n : Int) : List Bool :=
  if n = 1 then [true, false, false, false, false, false, true, false]
  else if n = 2 then [true, false, false, false, false, false, false, false]
  else if n = 3 then [true, true, false, true, false, false, true, false]
  else if n = 4 then [true, true, false, false, false, false, false, false]
  else if n = 5 then [true, true, false, false, false, false, false, false]
  else if n = 6 then [true, true, true, true, true, false, false, false]
  else if n = 7 then [true, true, true, false, false, true, true, false]
  else if n = 8 then [true, true, true, false, false, false, false, false]
  else if n = 9 then [true, false, false, false, false, false, false, true]
  else if n = 10 then [false, false, false, false, false, false, true, false]
  else if n = 11 then [false, false, false, false, false, false, false, false]
  else [false, false, false, false, false, false, false, false]
def kindOk (n : Int) : Bool := decide (1 ≤ n ∧ n ≤ 11)
def bools (l : List Bool) : Array Value := (l.map Value.bool).toArray
def KindPost (n : Int) (w : World) (e : Ending) (w' : World) : Prop := e = .returned (.tuple #[.agg (bools (kindF n)), .bool (kindOk n)]) ∧ Below w.heap.size w w'

set_option maxHeartbeats 3200000 in
theorem kind_any (n : Int) (w : World) : Calls Tryd.prog 94 #[.int .i64 n] w (KindPost n w) := by
  have hb : Below w.heap.size w (w.alloc (.cells #[.bool false, .bool false, .bool false, .bool false, .bool false, .bool false, .bool false, .bool false] 168)) := (Below.refl _ _).alloc (Nat.le_refl _) _
  by_cases h1 : n = 1
  · subst h1
    go_enter Tryd.func94, Tryd.ntmps94
    go_wp2
    exact bodyPost_ret (v := .tuple #[.agg #[.bool true, .bool false, .bool false, .bool false, .bool false, .bool false, .bool true, .bool false], .bool true]) (by simp [results, Tryd.results94, go_sem]) rfl ⟨by rfl, (Below.refl _ _).alloc (Nat.le_refl _) _⟩
  by_cases h2 : n = 2
  · subst h2
    go_enter Tryd.func94, Tryd.ntmps94
    go_wp2
    exact bodyPost_ret (v := .tuple #[.agg #[.bool true, .bool false, .bool false, .bool false, .bool false, .bool false, .bool false, .bool false], .bool true]) (by simp [results, Tryd.results94, go_sem]) rfl ⟨by rfl, (Below.refl _ _).alloc (Nat.le_refl _) _⟩
  by_cases h3 : n = 3
  · subst h3
    go_enter Tryd.func94, Tryd.ntmps94
    go_wp2
    exact bodyPost_ret (v := .tuple #[.agg #[.bool true, .bool true, .bool false, .bool true, .bool false, .bool false, .bool true, .bool false], .bool true]) (by simp [results, Tryd.results94, go_sem]) rfl ⟨by rfl, (Below.refl _ _).alloc (Nat.le_refl _) _⟩
  by_cases h4 : n = 4
  · subst h4
    go_enter Tryd.func94, Tryd.ntmps94
    go_wp2
    exact bodyPost_ret (v := .tuple #[.agg #[.bool true, .bool true, .bool false, .bool false, .bool false, .bool false, .bool false, .bool false], .bool true]) (by simp [results, Tryd.results94, go_sem]) rfl ⟨by rfl, (Below.refl _ _).alloc (Nat.le_refl _) _⟩
  by_cases h5 : n = 5
  · subst h5
    go_enter Tryd.func94, Tryd.ntmps94
    go_wp2
    exact bodyPost_ret (v := .tuple #[.agg #[.bool true, .bool true, .bool false, .bool false, .bool false, .bool false, .bool false, .bool false], .bool true]) (by simp [results, Tryd.results94, go_sem]) rfl ⟨by rfl, (Below.refl _ _).alloc (Nat.le_refl _) _⟩
  by_cases h6 : n = 6
  · subst h6
    go_enter Tryd.func94, Tryd.ntmps94
    go_wp2
    exact bodyPost_ret (v := .tuple #[.agg #[.bool true, .bool true, .bool true, .bool true, .bool true, .bool false, .bool false, .bool false], .bool true]) (by simp [results, Tryd.results94, go_sem]) rfl ⟨by rfl, (Below.refl _ _).alloc (Nat.le_refl _) _⟩
  by_cases h7 : n = 7
  · subst h7
    go_enter Tryd.func94, Tryd.ntmps94
    go_wp2
    exact bodyPost_ret (v := .tuple #[.agg #[.bool true, .bool true, .bool true, .bool false, .bool false, .bool true, .bool true, .bool false], .bool true]) (by simp [results, Tryd.results94, go_sem]) rfl ⟨by rfl, (Below.refl _ _).alloc (Nat.le_refl _) _⟩
  by_cases h8 : n = 8
  · subst h8
    go_enter Tryd.func94, Tryd.ntmps94
    go_wp2
    exact bodyPost_ret (v := .tuple #[.agg #[.bool true, .bool true, .bool true, .bool false, .bool false, .bool false, .bool false, .bool false], .bool true]) (by simp [results, Tryd.results94, go_sem]) rfl ⟨by rfl, (Below.refl _ _).alloc (Nat.le_refl _) _⟩
  by_cases h9 : n = 9
  · subst h9
    go_enter Tryd.func94, Tryd.ntmps94
    go_wp2
    exact bodyPost_ret (v := .tuple #[.agg #[.bool true, .bool false, .bool false, .bool false, .bool false, .bool false, .bool false, .bool true], .bool true]) (by simp [results, Tryd.results94, go_sem]) rfl ⟨by rfl, (Below.refl _ _).alloc (Nat.le_refl _) _⟩
  by_cases h10 : n = 10
  · subst h10
    go_enter Tryd.func94, Tryd.ntmps94
    go_wp2
    exact bodyPost_ret (v := .tuple #[.agg #[.bool false, .bool false, .bool false, .bool false, .bool false, .bool false, .bool true, .bool false], .bool true]) (by simp [results, Tryd.results94, go_sem]) rfl ⟨by rfl, (Below.refl _ _).alloc (Nat.le_refl _) _⟩
  by_cases h11 : n = 11
  · subst h11
    go_enter Tryd.func94, Tryd.ntmps94
    go_wp2
    exact bodyPost_ret (v := .tuple #[.agg #[.bool false, .bool false, .bool false, .bool false, .bool false, .bool false, .bool false, .bool false], .bool true]) (by simp [results, Tryd.results94, go_sem]) rfl ⟨by rfl, (Below.refl _ _).alloc (Nat.le_refl _) _⟩
  have hk : kindOk n = false := by unfold kindOk; simp; omega
  have hf : kindF n = [false, false, false, false, false, false, false, false] := by simp [kindF, h1, h2, h3, h4, h5, h6, h7, h8, h9, h10, h11]
  unfold KindPost
  rw [hk, hf]
  clear hk hf
  go_enter Tryd.func94, Tryd.ntmps94
  go_wp2
  exact bodyPost_ret (v := .tuple #[.agg #[.bool false, .bool false, .bool false, .bool false, .bool false, .bool false, .bool false, .bool false], .bool false]) (by simp [results, Tryd.results94, go_sem]) rfl ⟨by rfl, (Below.refl _ _).alloc (Nat.le_refl _) _⟩

/-! ### goodParts, goodPiece -/

/-- Are parts' numbers good: from 1 to 16, each above the one before? -/
def risesFrom : Int → List Int → Bool
  | _, [] => true
  | p, x :: r => decide (p < x ∧ x ≤ 16) && risesFrom x r
def partsB (l : List Int) : Bool := risesFrom 0 l && decide (0 < l.length)
/-- The last of the first k, or 0. -/
def lastOf (l : List Int) (k : Nat) : Int := if k = 0 then 0 else l.getD (k - 1) 0
theorem rises_drop (l : List Int) (k : Nat) (x : Int) (h : l[k]? = some x) (p : Int) : risesFrom p (l.drop k) = (decide (p < x ∧ x ≤ 16) && risesFrom x (l.drop (k + 1))) := by
  have hk := (List.getElem?_eq_some_iff.1 h)
  obtain ⟨hk1, hk2⟩ := hk
  rw [List.drop_eq_getElem_cons hk1, hk2]
  rfl

def PartsPost (l : List Int) (w : World) (e : Ending) (w' : World) : Prop := e = .returned (.bool (partsB l)) ∧ w' = w

set_option maxHeartbeats 800000 in
theorem goodParts_any (w : World) (lo hi : Nat) (v : Value) (l : List Int) (h : IntsAt w lo hi v l) : Calls Tryd.prog 97 #[v] w (PartsPost l w) := by
  obtain ⟨A, c, rfl, hc1, hc2, _, hr⟩ := h
  obtain ⟨n, hn⟩ : ∃ n, n = l.length := ⟨_, rfl⟩
  have hn63 : n ≤ 9223372036854775807 := by simp only [maxLen] at hc2; omega
  rw [← hn] at hr ⊢
  have HN := Lib.hid hn
  have HR := Lib.hid hr
  clear hn hr hc1 hc2
  go_enter Tryd.func97, Tryd.ntmps97
  go_wp2
  go_loop [7] (fun i => ∃ k : Nat, k ≤ n ∧ i = .int .i64 k ∧ risesFrom 0 l = risesFrom (lastOf l k) (l.drop k) ∧ 0 ≤ lastOf l k ∧ (0 < k → 1 ≤ lastOf l k)) (fun i => n - (intOf i).toNat)
  case atStart => exact ⟨0, Nat.zero_le _, rfl, by simp [lastOf], by simp [lastOf], by omega⟩
  case round =>
    obtain ⟨k, hk, rfl, hall, h0, h1⟩ := hrel
    by_cases hlt : k < n
    · obtain ⟨x, hx⟩ : ∃ x, l[k]? = some x := ⟨_, List.getElem?_eq_getElem (by rw [← HN.out]; exact hlt)⟩
      have hstep := rises_drop l k x hx (lastOf l k)
      have hlast : lastOf l (k + 1) = x := by simp [lastOf, List.getD, hx]
      rw [hstep] at hall
      obtain ⟨ad, rfl, _, _, hcell⟩ := HR.out.2 (by omega)
      obtain ⟨b, o, sp⟩ := ad
      have hck : w.cell? ((⟨b, o, sp⟩ : Addr).add k) = some (.int .i64 x) := hcell k _ (by rw [ints_getElem?, hx]; rfl)
      have hc0 : ∃ u, w.cell? ((⟨b, o, sp⟩ : Addr).add 0) = some u := by
        have : 0 < l.length := by rw [← HN.out]; omega
        exact ⟨_, hcell 0 _ (by rw [ints_getElem?, List.getElem?_eq_getElem this]; rfl)⟩
      obtain ⟨u0, hu0⟩ := hc0
      have hsp : sp = none := by simpa [Addr.add] using World.cell?_spot hu0
      subst hsp
      rw [Addr.add_mid] at hck
      have hprev : 0 < k → w.cell? ⟨b, o + (k - 1), none⟩ = some (.int .i64 (lastOf l k)) := fun hk0 => by
        have hlt' : k - 1 < l.length := by rw [← HN.out]; omega
        have := hcell (k - 1) (.int .i64 (lastOf l k)) (by rw [ints_getElem?, List.getElem?_eq_getElem hlt']; simp [lastOf, List.getD, show ¬ k = 0 by omega, List.getElem?_eq_getElem hlt'])
        rwa [Addr.add_mid] at this
      obtain ⟨p, hp⟩ : ∃ p, p = lastOf l k := ⟨_, rfl⟩
      have hpz : k = 0 → p = 0 := fun e => by rw [hp, e]; rfl
      rw [← hp] at hall hprev h0 h1
      have HALL := Lib.hid hall
      have HLAST := Lib.hid hlast
      have HP := Lib.hid hprev
      clear hall hlast hprev hstep hx hcell hu0 hp
      have hno : ¬ (p < x ∧ x ≤ 16) → partsB l = false := fun hc => by
        unfold partsB
        rw [HALL.out, decide_eq_false hc]
        rfl
      have HNO := Lib.hid hno
      clear hno
      by_cases x1 : x < 1
      · go_wp2
        go_ret
        exact ⟨ret_bool (HNO.out (by omega)).symm, rfl⟩
      · by_cases x16 : x > 16
        · go_wp2
          go_ret
          exact ⟨ret_bool (HNO.out (by omega)).symm, rfl⟩
        · by_cases k0 : (k : Int) > 0
          · have cp := HP.out (by omega)
            have hk1 : ((k : Int) - 1).toNat = k - 1 := by omega
            by_cases xp : x ≤ p
            · go_wp2
              go_ret
              exact ⟨ret_bool (HNO.out (by omega)).symm, rfl⟩
            · go_wp2
              go_round
              case rel => exact ⟨k + 1, by omega, by go_num, by rw [HLAST.out, HALL.out, decide_eq_true (by omega)]; rfl, by rw [HLAST.out]; omega, fun _ => by rw [HLAST.out]; omega⟩
              case measure => simp [intOf]; omega
          · have hp0 : p < x := by
              have : k = 0 := by omega
              have := hpz this
              omega
            go_wp2
            go_round
            case rel => exact ⟨k + 1, by omega, by go_num, by rw [HLAST.out, HALL.out, decide_eq_true (by omega)]; rfl, by rw [HLAST.out]; omega, fun _ => by rw [HLAST.out]; omega⟩
            case measure => simp [intOf]; omega
    · have hkn : k = n := by omega
      have hd : l.drop k = [] := by rw [hkn, HN.out, List.drop_length]
      rw [hd] at hall
      have hpb : partsB l = decide ((n : Int) > 0) := by
        unfold partsB
        rw [hall, ← HN.out]
        simp [risesFrom]
      have HPB := Lib.hid hpb
      clear hpb hall hd h0 h1 hkn
      by_cases hn0 : (n : Int) > 0
      · go_wp2
        go_ret
        exact ⟨ret_bool (by rw [HPB.out]; first | (simp; done) | (simp; omega)), rfl⟩
      · go_wp2
        go_ret
        exact ⟨ret_bool (by rw [HPB.out]; first | (simp; done) | (simp; omega)), rfl⟩

end Go.Proofs.YtnlncfjibbdimaaDoor

