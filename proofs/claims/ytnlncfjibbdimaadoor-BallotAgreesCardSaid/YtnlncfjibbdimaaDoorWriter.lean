/-
  The walks of wire.Writer, for small numbers and empty texts.
-/
import Derived.Test.YtnlncfjibbdimaaDoorCopy
import Derived.Deep.DeepCutAuto
namespace Go.Proofs.YtnlncfjibbdimaaDoor
open Go.RowKit
set_option linter.unusedSimpArgs false
set_option linter.unusedVariables false

theorem u8_info : (Tryd.prog.info? 5).map (fun i => (i.zero, i.size, i.bytes)) = some (some (.int .u8 0), 1, 1) := by kernel_rfl
theorem info_parts8 {i : Option TypeInfo} (h : i.map (fun i => (i.zero, i.size, i.bytes)) = some (some (.int .u8 0), 1, 1)) : ∃ j, i = some j ∧ j.zero = some (.int .u8 0) ∧ j.size = 1 ∧ j.bytes = 1 := by
  cases i with
  | none => simp at h
  | some j => simp at h; exact ⟨j, rfl, h.1, h.2.1, h.2.2⟩

def u8s (xs : List Nat) : List Value := xs.map fun (n : Nat) => Value.int .u8 n

theorem ownsRow_far {w : World} {base e size n g i : Nat} {v u : Value} {xs : List Value} {t : TypeId} {cs : Array Value} (h : w.ownsRow base e size v n xs) (hB : Blk w g t cs) (hne : t ≠ e) : (w.setCell ⟨g, i, none⟩ u).ownsRow base e size v n xs := by
  refine ⟨h.1, ?_⟩
  rcases h.2 with h2 | ⟨k, cap, cur, rfl, hb, hh, hr⟩
  · exact .inl h2
  · have hgk : k ≠ g := fun e => by
      subst e
      unfold Blk at hB
      rw [hB] at hh
      injection hh with hh
      injection hh with _ hh
      exact hne hh
    exact .inr ⟨k, cap, cur, rfl, hb, (Below.heap_setCell w ⟨g, i, none⟩ u k hgk).trans hh, hr⟩

theorem own_ne_blk {w : World} {base e size n g : Nat} {v : Value} {xs : List Value} {t : TypeId} {cs : Array Value} (h : w.ownsRow base e size v n xs) (hB : Blk w g t cs) (hne : t ≠ e) : some g ≠ v.ownBlock := by
  rcases h.2 with ⟨rfl, _⟩ | ⟨k, cap, cur, rfl, hb, hh, hr⟩
  · simp [Value.ownBlock]
  · intro he
    obtain rfl : g = k := by simpa [Value.ownBlock] using he
    unfold Blk at hB
    rw [hB] at hh
    injection hh with hh
    injection hh with _ hh
    exact hne hh

/-- A writer at block g, with its bytes; all of its memory lies from block lo on. -/
def WAt (w : World) (lo g : Nat) (bs : List Nat) : Prop := lo ≤ g ∧ bs.length ≤ 1099511627776 ∧ ∃ A c, Blk w g 227 #[.slice A bs.length c, .bool false] ∧ w.ownsRow lo 5 1 (.slice A bs.length c) bs.length (u8s bs)

/-- What a writer's call may turn: its own block, and blocks of bytes. -/
def WS (w : World) (g : Nat) (k : Nat) : Prop := k = g ∨ ∃ cs, Blk w k 5 cs
def NumW (w : World) (lo g : Nat) (bs : List Nat) (e : Ending) (w' : World) : Prop := e = .returned (.tuple #[]) ∧ WAt w' lo g bs ∧ Below lo w w' ∧ Fr w.heap.size (WS w g) w w'

theorem own_blk {w : World} {base e size n k : Nat} {v : Value} {xs : List Value} (h : w.ownsRow base e size v n xs) (hk : v.ownBlock = some k) : ∃ cs, Blk w k e cs := by
  rcases h.2 with ⟨rfl, _⟩ | ⟨k', cap, cur, rfl, hb, hh, hr⟩
  · simp [Value.ownBlock] at hk
  · obtain rfl : k' = k := by simpa [Value.ownBlock] using hk
    exact ⟨cur, hh⟩

set_option maxRecDepth 100000 in
set_option maxHeartbeats 800000 in
theorem num_small (w : World) (lo g n : Nat) (bs : List Nat) (h : WAt w lo g bs) (hl : bs.length < 1099511627776) (hn : n ≤ 127) : Calls Tryd.prog 99 #[.pointer (some ⟨g, 0, none⟩), .int .i64 n] w (NumW w lo g (bs ++ [n])) := by
  obtain ⟨hlo, _, A, c, hB, hown⟩ := h
  obtain ⟨i0, hi0, hz0, hz1, hz2⟩ := info_parts8 u8_info
  have hg := hB.lt
  have cB := hB.cell
  have hn0 : ¬ (n : Int) < 0 := by omega
  have hn1 : ¬ (n : Int) > 127 := by omega
  have hmod : (n : Int) % 256 = n := by omega
  have hownW : (w.alloc (.cells #[.int .u8 n] 5)).ownsRow lo 5 1 (.slice A bs.length c) bs.length (u8s bs) :=
    (OwnRow.fr (lo := lo) (hi := w.heap.size) ⟨hown, fun g hg => (hown.lt g hg).2⟩ (Fr.of_below ((Below.refl w.heap.size w).alloc (Nat.le_refl _) _) (fun _ => False)) (Nat.le_refl _) (fun _ _ _ h => h)).1
  have hrd : Rd (w.alloc (.cells #[.int .u8 n] 5)) 0 (w.heap.size + 1) 1 (some ⟨w.heap.size, 0, none⟩) 1 [.int .u8 n] :=
    ⟨rfl, fun _ => ⟨_, rfl, Nat.zero_le _, by simp, fun j u hu => by rw [Addr.add_mid, Nat.zero_add, (Blk.new w 5 _).cell j]; simpa using hu⟩⟩
  have HW := Lib.hid (And.intro hownW hrd)
  have HL := Lib.hid hl
  have HO := Lib.hid hlo
  have HB := Lib.hid hB
  have HO5 := Lib.hid hown
  clear hownW hrd hown hl hlo hB
  go_enter Tryd.func99, Tryd.ntmps99
  go_wp2
  go_loop [1] (fun v => v = .int .i64 n) (fun _ => 0)
  case atStart => rfl
  case round =>
    subst hrel
    go_wp2_with (at_builtin
                 refine wpList_append_any _ rfl (.tmp 30) (.tmp 33) 84 rfl lo 5 i0 _ 1 1 Tryd.underlying84 hi0 hz0 hz1 hz2 rfl (by decide) (.slice A bs.length c) bs.length (u8s bs) rfl HW.out.1
                   0 (w.heap.size + 1) (some ⟨w.heap.size, 0, none⟩) 1 1 [.int .u8 n] rfl HW.out.2 (by simp [Value.oneCell']) (by have := HL.out; simp only [maxLen]; omega) (by have := HL.out; omega) (by have := HO.out; simp; omega) ?_
                 intro v1 w1 hown1 hg1 hat1
                 have hO1 : OwnRow w1 lo w1.heap.size 5 1 v1 (bs.length + 1) (u8s bs ++ [.int .u8 n]) := ⟨hown1, fun g hg => (hown1.lt g hg).2⟩
                 have hB1 : Blk w1 g 227 #[.slice A bs.length c, .bool false] := (HB.out.alloc (.cells #[.int .u8 n] 5)).grown hg1 (own_ne_blk HW.out.1 (HB.out.alloc _) (by decide))
                 have hb1 : Below lo w w1 := ((Below.refl lo w).alloc (by have := HO.out; omega) _).grown hg1 (by have := HO.out; simp; omega) (fun k hk => (HW.out.1.lt k hk).1)
                 obtain ⟨A1, c1, hv1, _⟩ := hO1.form
                 subst hv1
                 have cB1 := hB1.cell
                 have fB1 := hB1.frozen
                 have hfin : WAt (w1.setCell ⟨g, 0, none⟩ (.slice A1 (bs.length + 1) c1)) lo g (bs ++ [n]) := ⟨HO.out, by have := HL.out; simp; omega, A1, c1, by simpa using hB1.set_ 0 (.slice A1 (bs.length + 1) c1), by have := ownsRow_far (i := 0) (u := .slice A1 (bs.length + 1) c1) hown1 hB1 (by decide); simpa [u8s] using this⟩
                 have hbf : Below lo w (w1.setCell ⟨g, 0, none⟩ (.slice A1 (bs.length + 1) c1)) := hb1.setCell (p := ⟨g, 0, none⟩) HO.out _
                 have hfr : Fr w.heap.size (WS w g) w (w1.setCell ⟨g, 0, none⟩ (.slice A1 (bs.length + 1) c1)) :=
                   (((Fr.refl w.heap.size (WS w g) w).alloc (Nat.le_refl _) (.cells #[.int .u8 n] 5)).grown hg1 (by simp) (fun k hk => by
                     have hk' := own_blk HO5.out hk
                     exact .inl (.inr hk'))).setCell (p := ⟨g, 0, none⟩) (.inl (.inl rfl)) _
                 have HF := Lib.hid (And.intro hfin (And.intro hbf hfr))
                 clear hfr
                 clear hfin hbf hO1 hB1 hb1 hown1 hg1 hat1)
    go_end0
    exact ⟨rfl, HF.out⟩

end Go.Proofs.YtnlncfjibbdimaaDoor
