/-
  The walks of slices.Clone of bytes, Writer.Done, NewWriter, and command.Put of the example's command.
-/
import Derived.Test.YtnlncfjibbdimaaDoorWriter2
import Derived.Test.YtnlncfjibbdimaaDoorChk
namespace Go.Proofs.YtnlncfjibbdimaaDoor
open Go.RowKit
set_option linter.unusedSimpArgs false
set_option linter.unusedVariables false

theorem u8s_oneCell (xs : List Nat) : ∀ u ∈ u8s xs, u.oneCell' = true := by
  intro u hu
  simp only [u8s, List.mem_map] at hu
  obtain ⟨x, _, rfl⟩ := hu
  rfl

def Clone8Post (w : World) (bs : List Nat) (e : Ending) (w' : World) : Prop :=
  ∃ A c, e = .returned (.slice A bs.length c) ∧ OwnRow w' w.heap.size w'.heap.size 5 1 (.slice A bs.length c) bs.length (u8s bs) ∧ Below w.heap.size w w'

set_option maxHeartbeats 400000 in
theorem clone8 (w : World) (ad : Addr) (c : Nat) (bs : List Nat) (hl : bs.length ≤ 140737488355328) (hr : Rd w 0 w.heap.size 1 (some ad) bs.length (u8s bs)) :
    Calls Tryd.prog 147 #[.slice (some ad) bs.length c] w (Clone8Post w bs) := by
  obtain ⟨i0, hi0, hz0, hz1, hz2⟩ := info_parts8 u8_info
  have H := Lib.hid hl
  clear hl
  have hn := fun w => Lib.run_eql_slice_nil (P := Tryd.prog) w 84 5 (some ad) bs.length c 0 0 Tryd.underlying84
  go_enter Tryd.func147, Tryd.ntmps147
  go_wp2_with (at_builtin
               refine wpList_append_any _ rfl (.tmp 5) (.tmp 6) _ rfl w.heap.size 5 i0 _ 1 1 Tryd.underlying84 hi0 hz0 hz1 hz2 rfl (by omega) (.slice (some ⟨w.heap.size, 0, none⟩) 0 0) 0 [] rfl
                 ?_ 0 w.heap.size (some ad) bs.length c (u8s bs) rfl ?_ (u8s_oneCell _) ?_ ?_ (by simp) ?_
               rotate_right
               intro v1 w1 hown1 hg1 hat1)
  · have hb0 : Below w.heap.size w (w.alloc (.cells #[] 5)) := (Below.refl _ _).alloc (Nat.le_refl _) _
    have hO : OwnRow w1 w.heap.size w1.heap.size 5 1 v1 bs.length (u8s bs) := ⟨by simpa using hown1, fun g hg => (hown1.lt g hg).2⟩
    obtain ⟨A1, c1, rfl, _⟩ := hO.form
    go_ret
    exact ⟨A1, c1, rfl, hO, hb0.grown hg1 (by simp) (fun k hk => by simp [Value.ownBlock] at hk; omega)⟩
  · exact World.ownsRow_made w #[] 0 (Nat.le_refl _) (by simp [maxLen]) (by simp)
  · exact hr.fr (Fr.of_below ((Below.refl _ _).alloc (Nat.le_refl _) _) (fun _ => False)) (Nat.le_refl _) (fun _ _ _ h => h)
  · have := H.out; simp only [maxLen]; omega
  · have := H.out; omega

def DonePost (w : World) (bs : List Nat) (e : Ending) (w' : World) : Prop :=
  ∃ A c, e = .returned (.tuple #[.slice A bs.length c, .nilIface]) ∧ OwnRow w' w.heap.size w'.heap.size 5 1 (.slice A bs.length c) bs.length (u8s bs) ∧ Below w.heap.size w w'

set_option maxHeartbeats 400000 in
theorem done_some (w : World) (lo g : Nat) (bs : List Nat) (h : WAt w lo g bs) (h0 : 0 < bs.length) : Calls Tryd.prog 102 #[.pointer (some ⟨g, 0, none⟩)] w (DonePost w bs) := by
  have hl := h.2.1
  obtain ⟨A, c, hB, hown, hc1, hc2, hA⟩ := h.open_
  cases A with
  | none => have := hA rfl; omega
  | some ad =>
    have hr : Rd w 0 w.heap.size 1 (some ad) bs.length (u8s bs) := (Rd.of_own hown (fun g hg => (hown.lt g hg).2)).wider (Nat.zero_le _) (Nat.le_refl _)
    have hcl := clone8 w ad c bs (by omega) hr
    have cB := hB.cell
    have HH := Lib.hid (And.intro hown hr)
    clear hown hr hA h
    go_enter Tryd.func102, Tryd.ntmps102
    go_wp2_with (go_at_call 147; refine hcl.mono ?_; rintro e w1 ⟨A1, c1, rfl, o1, b1⟩)
    go_ret2
    exact ⟨A1, c1, rfl, o1, b1⟩

set_option maxHeartbeats 400000 in
theorem newWriter_any (w : World) : Calls Tryd.prog 98 #[] w fun e w' => e = .returned (.pointer (some ⟨w.heap.size, 0, none⟩)) ∧ w' = w.alloc (.cells #[.slice none 0 0, .bool false] 227) := by
  go_enter Tryd.func98, Tryd.ntmps98
  go_wp2
  go_ret
  exact ⟨rfl, rfl⟩

theorem num_int (w : World) (lo g : Nat) (n : Int) (bs : List Nat) (h : WAt w lo g bs) (hl : bs.length < 1099511627776) (hn : 0 ≤ n ∧ n ≤ 127) : Calls Tryd.prog 99 #[.pointer (some ⟨g, 0, none⟩), .int .i64 n] w (NumW w lo g (bs ++ [n.toNat])) := by
  have := num_small w lo g n.toNat bs h hl (by omega)
  rw [Int.toNat_of_nonneg hn.1] at this
  exact this
theorem putId_int (w : World) (lo g : Nat) (a b c : Int) (bs : List Nat) (h : WAt w lo g bs) (hl : bs.length < 1099511627770) (ha : 0 ≤ a ∧ a ≤ 127) (hb : 0 ≤ b ∧ b ≤ 127) (hc : 0 ≤ c ∧ c ≤ 127) :
    Calls Tryd.prog 100 #[.pointer (some ⟨g, 0, none⟩), .agg #[.int .i64 a, .int .i64 b, .int .i64 c]] w (NumW w lo g (bs ++ [a.toNat, b.toNat, c.toNat])) := by
  have := putId_small w lo g a.toNat b.toNat c.toNat bs h hl (by omega) (by omega) (by omega)
  rw [Int.toNat_of_nonneg ha.1, Int.toNat_of_nonneg hb.1, Int.toNat_of_nonneg hc.1] at this
  exact this

end Go.Proofs.YtnlncfjibbdimaaDoor
