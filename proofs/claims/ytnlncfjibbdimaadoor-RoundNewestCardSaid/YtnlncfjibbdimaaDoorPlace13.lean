/-
  ledger.Place: an id's place.
-/
import Derived.Test.YtnlncfjibbdimaaDoorIdx13
import Derived.Test.YtnlncfjibbdimaaDoorErrs
import Derived.Deep.RegionHeld3
import Derived.Deep.Cut
namespace Go.Proofs.YtnlncfjibbdimaaDoor
open Go.RowKit
set_option linter.unusedSimpArgs false
set_option linter.unusedVariables false

theorem idxN_cases (l : List Cmd) (a b d : Int) : idxN l a b d = -1 ∨ ∃ i : Nat, idxN l a b d = i ∧ i < l.length := by
  unfold idxN
  cases h : l.findIdx? (fun c => idB c a b d) with
  | none => exact .inl rfl
  | some i =>
    rw [List.findIdx?_eq_some_iff_getElem] at h
    obtain ⟨h1, _⟩ := h
    exact .inr ⟨i, rfl, h1⟩
/-- What Place answers. -/
def PlacePost (l : List Cmd) (a b d : Int) (a10 : Addr) (w : World) (e : Ending) (w' : World) : Prop :=
  e = .returned (.tuple #[.int .i64 (idxN l a b d + 1), if idxN l a b d < 0 then errv a10 else .nilIface]) ∧ Below w.heap.size w w'

set_option maxRecDepth 100000 in
set_option maxHeartbeats 800000 in
theorem place_any (w : World) (lo hi : Nat) (v : Value) (l : List Cmd) (h : LedAt w lo hi v l) (hhi : hi ≤ w.heap.size) (a b d : Int) (a10 : Addr) (h10 : w.cell? ⟨10, 0, none⟩ = some (errv a10)) :
    Calls Tryd.prog 122 #[v, .agg #[.int .i64 a, .int .i64 b, .int .i64 d]] w (PlacePost l a b d a10 w) := by
  have h010 := World.block_lt_of_cell? w _ h10
  have bA : Below w.heap.size w (w.alloc (.cells #[.int .i64 a, .int .i64 b, .int .i64 d] 74)) := (Below.refl _ _).alloc (Nat.le_refl _) _
  have hX := Blk.new w 74 #[.int .i64 a, .int .i64 b, .int .i64 d]
  have c0 := hX.cell 0
  have c1 := hX.cell 1
  have c2 := hX.cell 2
  have k154 := index_any (w.alloc (.cells #[.int .i64 a, .int .i64 b, .int .i64 d] 74)) lo hi v l (h.fr (Fr.of_below bA (fun _ => False)) hhi (fun _ _ _ h => h)) (Nat.le_trans hhi bA.size) a b d
  have hlen : l.length ≤ 9223372036854775807 := by obtain ⟨_, _, _, h1, h2, _⟩ := h.form; simp only [maxLen] at h2; omega
  have hG : ∀ W, Below (w.alloc (.cells #[.int .i64 a, .int .i64 b, .int .i64 d] 74)).heap.size (w.alloc (.cells #[.int .i64 a, .int .i64 b, .int .i64 d] 74)) W → W.cell? ⟨10, 0, none⟩ = some (errv a10) ∧ Below w.heap.size w W := fun W f =>
    ⟨(((bA.trans (f.mono bA.size)).cell h010).trans h10), bA.trans (f.mono bA.size)⟩
  obtain ⟨i, hi_⟩ : ∃ i, i = idxN l a b d := ⟨_, rfl⟩
  have hcs := idxN_cases l a b d
  rw [← hi_] at k154 hcs
  have HK := Lib.hid (And.intro k154 (And.intro hG hi_))
  unfold PlacePost
  rw [← hi_]
  clear h k154 bA hX hG h10 h010 hi_
  rcases hcs with rfl | ⟨j, rfl, hj⟩
  · go_enter Tryd.func122, Tryd.ntmps122
    go_upto_region 3 with (first | (go_at_call 154; refine HK.out.1.mono ?_; rintro e w2 ⟨rfl, b2⟩; have cE := (HK.out.2.1 w2 b2).1; have H2 := Lib.hid (HK.out.2.1 w2 b2).2; clear b2) | fail)
    go_region_held3 (fun w' => w'.cell? ⟨10, 0, none⟩ = some (errv a10)) (go_keep) (fail)
    go_wp2_with (fail)
    go_ret2
    exact ⟨by simp, H2.out.drew⟩
  · have hw1 : IntKind.i64.wrap ((j : Int) + 1) = (j : Int) + 1 := by rw [IntKind.wrap_i64]; omega
    have hj0 : ¬ (j : Int) < 0 := by omega
    go_enter Tryd.func122, Tryd.ntmps122
    go_wp2_with (first | (go_at_call 154; refine HK.out.1.mono ?_; rintro e w2 ⟨rfl, b2⟩; have H2 := Lib.hid (HK.out.2.1 w2 b2).2; clear b2) | fail)
    go_ret2
    exact ⟨by simp [hj0], H2.out⟩
end Go.Proofs.YtnlncfjibbdimaaDoor
