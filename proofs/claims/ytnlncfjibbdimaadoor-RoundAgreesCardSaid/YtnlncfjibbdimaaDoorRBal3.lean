/-
  The walks of the document's acceptor: Claim.
-/
import Derived.Test.YtnlncfjibbdimaaDoorRBal2
import Derived.Test.YtnlncfjibbdimaaDoorBal3
namespace Go.Proofs.YtnlncfjibbdimaaDoor
open Go.RowKit
set_option linter.unusedSimpArgs false
set_option linter.unusedVariables false

def rstep (t n : Int) : Int := if t < n ∧ n ≤ 1099511627776 then n else t
def rtop (s : Acc) (r : Int) : Nat → Int
  | 0 => s.pr
  | 1 => rstep s.pr s.claimed
  | _ => rstep (rstep s.pr s.claimed) r
def rnth (s : Acc) (r : Int) : Nat → Int
  | 0 => s.claimed
  | _ => r
theorem rtop_succ (s : Acc) (r : Int) (k : Nat) (h : k < 2) : rtop s r (k + 1) = rstep (rtop s r k) (rnth s r k) := by
  match k, h with
  | 0, _ => rfl
  | 1, _ => rfl
theorem rstep_yes {t n : Int} (h : t < n) (h' : n ≤ 1099511627776) : rstep t n = n := if_pos ⟨h, h'⟩
theorem rstep_no {t n : Int} (h : ¬ (t < n ∧ n ≤ 1099511627776)) : rstep t n = t := if_neg h
theorem rtop_top {s : Acc} {r : Int} (h1 : s.pr ≤ 1099511627776) (h2 : s.claimed ≤ 1099511627776) : rtop s r 2 = s.top r := by
  simp only [rtop, rstep, Acc.top]
  split <;> split <;> split <;> omega

theorem rstep_rng {t n : Int} (h1 : 0 ≤ t) (h2 : t ≤ 1099511627776) : 0 ≤ rstep t n ∧ rstep t n ≤ 1099511627776 := by
  unfold rstep; split <;> omega
theorem rtop_rng {s : Acc} {r : Int} (h1 : 0 ≤ s.pr) (h2 : s.pr ≤ 1099511627776) : 0 ≤ rtop s r 2 ∧ rtop s r 2 ≤ 1099511627776 := by
  have h := rstep_rng (n := s.claimed) h1 h2
  exact rstep_rng h.1 h.2

def RClaimPost (g : Nat) (w : World) (s : Acc) (t : Int) (lv : Value) (e : Ending) (w' : World) : Prop :=
  (t = 1099511627776 → e = .returned (.tuple #[.agg #[.int .i64 0, .int .i64 0], .int .i64 10]) ∧ Below w.heap.size w w') ∧
  (t ≠ 1099511627776 → e = .returned (.tuple #[.agg #[.int .i64 (t + 1), .int .i64 s.node], .int .i64 0]) ∧ Fr w.heap.size (· = g) w w' ∧ Blk w' g 59 (({ s with claimed := t + 1 } : Acc).cells lv))

theorem RClaimPost.full {g : Nat} {w W : World} {s : Acc} {t t' : Int} {lv : Value} {e : Ending} (ht : t = t') (h1 : t = 1099511627776) (he : e = .returned (.tuple #[.agg #[.int .i64 0, .int .i64 0], .int .i64 10])) (hb : Below w.heap.size w W) : RClaimPost g w s t' lv e W :=
  ⟨fun _ => ⟨he, hb⟩, fun h => absurd (ht ▸ h1) h⟩
theorem RClaimPost.ok {g : Nat} {w W : World} {s : Acc} {t t' : Int} {lv : Value} {e : Ending} (ht : t = t') (h1 : ¬ t = 1099511627776) (he : e = .returned (.tuple #[.agg #[.int .i64 (t + 1), .int .i64 s.node], .int .i64 0])) (hF : Fr w.heap.size (· = g) w W)
    (hB : Blk W g 59 (({ s with claimed := t + 1 } : Acc).cells lv)) : RClaimPost g w s t' lv e W := by
  subst ht; exact ⟨fun h => absurd h h1, fun _ => ⟨he, hF, hB⟩⟩

set_option maxHeartbeats 1600000 in
theorem rclaim_any (g : Nat) (s : Acc) (lv : Value) (r n : Int) (w : World) (hB : Blk w g 59 (s.cells lv)) (hp : 0 ≤ s.pr) (hp2 : s.pr ≤ 1099511627776) :
    Calls Tryd.prog 88 #[.pointer (some ⟨g, 0, none⟩), .agg #[.int .i64 r, .int .i64 n]] w (RClaimPost g w s (rtop s r 2) lv) := by
  have hg := hB.lt
  have cB0 := hB.cell
  simp only [Acc.cells] at cB0
  have hne : ¬ w.heap.size = g := by omega
  have hne' : ¬ w.heap.size + 1 = g := by omega
  go_enter Tryd.func88, Tryd.ntmps88
  go_upto_region 2 with fail
  refine wp_letter (fun W => Below w.heap.size w W ∧ Blk W g 59 (s.cells lv) ∧ Blk W w.heap.size 23 #[.int .i64 r, .int .i64 n] ∧ Blk W (w.heap.size + 1) 23 #[.int .i64 0, .int .i64 0])
    ⟨((Below.refl _ _).alloc (Nat.le_refl _) _).alloc (by simp) _, (hB.alloc _).alloc _, (Blk.new w 23 _).alloc _, Blk.new1 _ _ _ _⟩ ?_
  rintro W ⟨hb, hB1, hX1, hY1⟩
  clear cB0 hB
  have cB := hB1.cell
  have cX := hX1.cell
  simp only [Acc.cells] at cB
  have hsW := hb.size
  have lY := hY1.lt
  go_region_held3 (fun w' => w'.cell? ⟨g, 6, none⟩ = some (.int .i64 s.claimed) ∧ w'.cell? ⟨w.heap.size, 0, none⟩ = some (.int .i64 r)) (go_keep) (fail)
  go_wp2_with (fail)
  refine wp_letter (fun W2 => Below w.heap.size w W2 ∧ Blk W2 g 59 (s.cells lv) ∧ Blk W2 (w.heap.size + 1) 23 #[.int .i64 0, .int .i64 0] ∧ Blk W2 W.heap.size 3 #[.int .i64 s.claimed, .int .i64 r])
    ⟨(hb.alloc hsW _).drew, (hB1.alloc _).drew, (hY1.alloc _).drew, (Blk.new W 3 _).drew⟩ ?_
  rintro W2 ⟨hb2, hB2, hY2, hZ2⟩
  clear cB cX hB1 hX1 hY1 hb
  have cB := hB2.cell
  have fB := hB2.frozen
  simp only [Acc.cells] at cB
  have cY := hY2.cell
  have fY := hY2.frozen
  have cZ := hZ2.cell
  have hz : ∀ k, k < 2 → W2.cell? ⟨W.heap.size, k, none⟩ = some (.int .i64 (rnth s r k)) := fun k hk => by
    rw [cZ]
    match k, hk with
    | 0, _ => rfl
    | 1, _ => rfl
  have HZ := Lib.hid hz
  have HB := Lib.hid cB
  have FB := Lib.hid fB
  have CY := Lib.hid cY
  have FY := Lib.hid fY
  clear hz cB fB cY fY cZ
  go_loop [6, 22] (fun t i => ∃ k : Nat, k ≤ 2 ∧ i = .int .i64 k ∧ t = .int .i64 (rtop s r k)) (fun _ i => 2 - (intOf i).toNat)
  case atStart => exact ⟨0, by omega, rfl, rfl⟩
  case round =>
    obtain ⟨k, hk, rfl, rfl⟩ := hrel
    by_cases hlt : k < 2
    · have hzk := HZ.out k hlt
      have e := rtop_succ s r k hlt
      obtain ⟨t, ht⟩ : ∃ t, t = rtop s r k := ⟨_, rfl⟩
      obtain ⟨x, hx⟩ : ∃ x, x = rnth s r k := ⟨_, rfl⟩
      rw [← ht, ← hx] at e
      rw [← ht]
      rw [← hx] at hzk
      have E := Lib.hid e
      have HT := Lib.hid ht
      have HX := Lib.hid hx
      clear e ht hx
      by_cases h1 : t < x ∧ x ≤ 1099511627776
      · have E' := Lib.hid (rstep_yes h1.1 h1.2)
        have h1a := h1.1
        have h1b := h1.2
        clear h1
        go_wp2
        go_round
        case rel => exact ⟨k + 1, by omega, by go_num, by rw [E.out, E'.out]⟩
        case measure => simp [intOf]; omega
      · have E' := Lib.hid (rstep_no h1)
        by_cases h2 : t < x
        · have h3 : ¬ x ≤ 1099511627776 := fun h => h1 ⟨h2, h⟩
          clear h1
          go_wp2
          go_round
          case rel => exact ⟨k + 1, by omega, by go_num, by rw [E.out, E'.out]⟩
          case measure => simp [intOf]; omega
        · clear h1
          go_wp2
          go_round
          case rel => exact ⟨k + 1, by omega, by go_num, by rw [E.out, E'.out]⟩
          case measure => simp [intOf]; omega
    · have hk2 : k = 2 := by omega
      subst hk2
      obtain ⟨t, ht⟩ : ∃ t, t = rtop s r 2 := ⟨_, rfl⟩
      rw [← ht]
      have HT := Lib.hid ht
      clear ht
      have cB := HB.out
      have fB := FB.out
      have cY := CY.out
      have fY := FY.out
      by_cases h1 : t = 1099511627776
      · go_wp2
        exact bodyPost_ret (v := .tuple #[.agg #[.int .i64 0, .int .i64 0], .int .i64 10]) (by simp [results, Tryd.results88, go_sem, cY]) rfl
          (RClaimPost.full HT.out h1 rfl ((hb2.setCell (p := ⟨w.heap.size + 1, 0, none⟩) (by simp) _).setCell (p := ⟨w.heap.size + 1, 1, none⟩) (by simp) _))
      · have ht1 : -9223372036854775808 ≤ t + 1 ∧ t + 1 ≤ 9223372036854775807 := by
          have h := rtop_rng (r := r) hp hp2
          rw [← HT.out] at h
          omega
        go_wp2
        exact bodyPost_ret (v := .tuple #[.agg #[.int .i64 (t + 1), .int .i64 s.node], .int .i64 0]) (by simp [results, Tryd.results88, go_sem, cY]) rfl
          (RClaimPost.ok HT.out h1 rfl ((((Fr.of_below hb2 (· = g)).setCell (p := ⟨g, 6, none⟩) (.inl rfl) _).setCell (p := ⟨w.heap.size + 1, 0, none⟩) (.inr (by simp)) _).setCell (p := ⟨w.heap.size + 1, 1, none⟩) (.inr (by simp)) _)
            (((hB2.set_ 6 (.int .i64 (t + 1))).far (p := ⟨w.heap.size + 1, 0, none⟩) (by simp; omega) _).far (p := ⟨w.heap.size + 1, 1, none⟩) (by simp; omega) _))

end Go.Proofs.YtnlncfjibbdimaaDoor
