/-
  The walk of layer 9's example (alive).
-/
import Derived.Test.YtnlncfjibbdimaaDoorBal3
import Derived.Test.YtnlncfjibbdimaaDoorErrs
namespace Go.Proofs.YtnlncfjibbdimaaDoor
open Go.RowKit
set_option linter.unusedSimpArgs false
set_option linter.unusedVariables false

def cmd1 : Cmd := ⟨1, 0, 0, 0, ⟨#[]⟩, ⟨#[]⟩, 0, 0, 0, 0, 0, 0, 0, ⟨#[]⟩, 0, [], 0, 0⟩

theorem LedAt.nil_ (w : World) : LedAt w 0 0 (.slice none 0 0) [] := ⟨none, 0, [], rfl, by simp, by simp [maxLen], by simp, Rd.none_, rfl, fun i r c h _ => by simp at h⟩

theorem LedAt.one {w : World} (g : Nat) (c : Cmd) (h : Blk w g 81 (c.cells (.slice none 0 0)).toArray) (hp : c.parts = []) : LedAt w g (g + 1) (.slice (some ⟨g, 0, none⟩) 1 1) [c] := by
  refine ⟨some ⟨g, 0, none⟩, 1, [c.cells (.slice none 0 0)], rfl, by simp, by simp [maxLen], by simp, ⟨rfl, fun _ => ⟨_, rfl, Nat.le_refl _, Nat.lt_succ_self _, fun j u hu => ?_⟩⟩, rfl, fun i r c' h1 h2 => ?_⟩
  · rw [Addr.add_mid]; exact h.range j u (by simpa using hu)
  · have hi : i = 0 := by
      have := (List.getElem?_eq_some_iff.1 h1).1
      simpa using this
    subst hi
    simp at h1 h2
    subst h1 h2
    exact ⟨_, rfl, none, 0, by rw [hp]; rfl, by simp [hp], by simp [maxLen], by simp [hp], by rw [hp]; exact Rd.none_⟩

def NewPost (n : Int) (w : World) (e : Ending) (w' : World) : Prop :=
  ∃ g, e = .returned (.tuple #[.pointer (some ⟨g, 0, none⟩), .nilIface]) ∧ w.heap.size ≤ g ∧ Blk w' g 156 ((Acc.new n).cells (.slice none 0 0)) ∧ Below w.heap.size w w'
theorem new_ok2 (n : Int) (w : World) (h1 : 0 ≤ n) (h2 : n < 16) : Calls Tryd.prog 26 #[.int .i64 n] w (NewPost n w) :=
  (new_ok n w h1 h2).mono fun e w' ⟨he, hw⟩ => by
    subst hw
    exact ⟨_, he, Nat.le_refl _, Blk.new _ _ _, (Below.refl _ _).alloc (Nat.le_refl _) _⟩

set_option maxHeartbeats 1600000 in
theorem alive9_any (w : World) (a3 : Addr) (h3 : w.cell? ⟨3, 0, none⟩ = some (errv a3)) :
    Calls Tryd.prog 22 #[] w fun e w' => e = .returned (.bool true) ∧ Below w.heap.size w w' := by
  have h00 := World.block_lt_of_cell? w _ h3
  simp only at h00
  go_enter Tryd.func22, Tryd.ntmps22
  go_wp2_with (fail)
  refine (new_ok2 3 _ (by decide) (by decide)).mono ?_
  rintro e w1 ⟨g, rfl, hg, hB1, hb1⟩
  have F1 : Fr w.heap.size (fun _ => False) w w1 := Fr.of_below hb1 _
  clear hb1
  go_wp2_with (fail)
  refine (prepare_ok g 0 0 _ _ 1 0 _ hB1 (LedAt.nil_ _) (Nat.zero_le _) (.inr (Nat.zero_le _)) rfl rfl).mono ?_
  rintro e w2 ⟨v2, rfl, f2, hB2, ho2⟩
  have F2 := F1.step f2 F1.size (fun k hk h => by omega)
  obtain ⟨A2, c2, hv2, _⟩ := OwnRow.form ho2.choose_spec.1
  subst hv2
  clear f2 hB1 ho2
  go_wp2_with (fail)
  have hX3 : Blk ((w2.alloc (.cells #[.int .i64 0, .int .i64 0] 23)).alloc (.cells (cmd1.cells (.slice none 0 0)).toArray 81)) (w2.heap.size + 1) 81 (cmd1.cells (.slice none 0 0)).toArray := Blk.new1 _ _ _ _
  have hgl := hB2.lt
  refine (accept_ok g (w2.heap.size + 1) (w2.heap.size + 1 + 1) _ _ 1 0 _ [cmd1] _ ((hB2.alloc _).alloc _) (LedAt.one _ _ hX3 rfl) (by simp) (.inl (by omega)) rfl rfl).mono ?_
  rintro e w3 ⟨rfl, f3, v3, hB3, ho3⟩
  have F3 := ((F2.alloc F2.size (.cells #[.int .i64 0, .int .i64 0] 23)).alloc (by have := F2.size; simp; omega) (.cells (cmd1.cells (.slice none 0 0)).toArray 81)).step f3 (by have := F2.size; simp; omega) (fun k hk h => by omega)
  clear f3 hB2 hX3
  go_wp2_with (fail)
  refine (prepare_ok g _ _ _ _ 2 1 _ hB3 ho3.at_ (Nat.le_refl _) (.inl (by simp; omega)) rfl rfl).mono ?_
  rintro e w4 ⟨v4, rfl, f4, hB4, ho4⟩
  have F4 := F3.step f4 F3.size (fun k hk h => by omega)
  obtain ⟨A4, c4, hv4, _⟩ := OwnRow.form ho4.choose_spec.1
  subst hv4
  clear f4 hB3 ho3 ho4
  go_wp2_with (fail)
  have h34 : w4.cell? ⟨3, 0, none⟩ = some (errv a3) := (F4.cell h00 (fun h => h)).trans h3
  have h34' : (w4.alloc (.cells #[.int .i64 1, .int .i64 0] 23)).cell? ⟨3, 0, none⟩ = some (errv a3) := (World.cell?_alloc_lt _ _ _ (World.block_lt_of_cell? w4 _ h34)).trans h34
  refine (accept_bal g _ _ 1 0 (.slice none 0 0) a3 _ h34' (hB4.alloc _) rfl rfl).mono ?_
  rintro e w5 ⟨rfl, hb5⟩
  have F5 := (F4.alloc F4.size (.cells #[.int .i64 1, .int .i64 0] 23)).trans (Fr.of_below (hb5.mono (by have := F4.size; simp; omega)) _)
  have h35 : w5.cell? ⟨3, 0, none⟩ = some (errv a3) := (F5.cell h00 (fun h => h)).trans h3
  have hX5 : Blk w5 w4.heap.size 23 #[.int .i64 1, .int .i64 0] := (Blk.new w4 23 _).below hb5 (by simp)
  have cX := hX5.cell
  have heq := errEq_same a3
  clear hb5 hB4 h34 h34'
  go_wp2_with (go_at_call 25; refine (half_any _ (by decide) _).mono ?_; rintro e w6 ⟨rfl, rfl⟩)
  go_ret
  exact ⟨ret_bool (by decide), F5.below (fun _ _ h => h)⟩

end Go.Proofs.YtnlncfjibbdimaaDoor
