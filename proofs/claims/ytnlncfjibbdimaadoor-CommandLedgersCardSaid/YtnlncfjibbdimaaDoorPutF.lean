/-
  The walk of command.Put of the example's command.
-/
import Derived.Test.YtnlncfjibbdimaaDoorWriter3
namespace Go.Proofs.YtnlncfjibbdimaaDoor
open Go.RowKit
set_option linter.unusedSimpArgs false
set_option linter.unusedVariables false

/-- The example's bytes. -/
def exBytes : List Nat := [11, 1, 2, 3, 0, 0, 0, 0, 0, 0, 0, 0, 0, 0, 0, 0, 0, 0]

def floorL : List Value := [.int .i64 11, .int .i64 1, .int .i64 2, .int .i64 3, .string ⟨#[]⟩, .string ⟨#[]⟩, .int .i64 0, .int .i64 0, .int .i64 0, .int .i64 0, .int .i64 0, .int .i64 0, .int .i64 0, .string ⟨#[]⟩, .int .i64 0, .slice none 0 0, .int .i64 0, .int .i64 0]
theorem check_floorL (w : World) : Calls Tryd.prog 43 #[.agg floorL.toArray] w fun e w' => e = .returned .nilIface ∧ Below w.heap.size w w' := check_floor w

def NewWPost (w : World) (e : Ending) (w' : World) : Prop := ∃ g, e = .returned (.pointer (some ⟨g, 0, none⟩)) ∧ w.heap.size ≤ g ∧ WAt w' g g [] ∧ Below w.heap.size w w'
theorem newWriter_w (w : World) : Calls Tryd.prog 98 #[] w (NewWPost w) :=
  (newWriter_any w).mono fun e w' ⟨h1, h2⟩ => by
    subst h2
    exact ⟨_, h1, Nat.le_refl _, ⟨Nat.le_refl _, by simp, none, 0, Blk.new w 227 _, World.ownsRow_nil _ _ _ _⟩, (Below.refl _ _).alloc (Nat.le_refl _) _⟩

set_option maxRecDepth 100000 in
set_option maxHeartbeats 3200000 in
theorem put_floor (w : World) : Calls Tryd.prog 44 #[.agg #[.int .i64 11, .int .i64 1, .int .i64 2, .int .i64 3, .string ⟨#[]⟩, .string ⟨#[]⟩, .int .i64 0, .int .i64 0, .int .i64 0, .int .i64 0, .int .i64 0, .int .i64 0, .int .i64 0, .string ⟨#[]⟩, .int .i64 0, .slice none 0 0, .int .i64 0, .int .i64 0]] w (DonePost w exBytes) := by
  go_enter Tryd.func44, Tryd.ntmps44
  go_upto_region 1 with (fail)
  refine wp_letter (fun W => Below w.heap.size w W ∧ Blk W w.heap.size 81 floorCells) ⟨(Below.refl _ _).alloc (Nat.le_refl _) _, Blk.new w 81 floorCells⟩ ?_
  rintro W ⟨bW, hX⟩
  obtain ⟨x, hx⟩ : ∃ x, x = w.heap.size := ⟨_, rfl⟩
  rw [← hx] at hX ⊢
  have hxW : x < W.heap.size := hX.lt
  have BW := Lib.hid bW
  have HX := Lib.hid hx
  clear hx bW
  have hrX : W.rangeAt x 0 floorL := fun j v hv => by
    rw [Nat.zero_add]; exact (hX.cell j).trans (by unfold floorL at hv; unfold floorCells; simpa using hv)
  go_upto_region 2 with (first
    | ((with_reducible refine law_load 81 (.tmp 1) x 0 floorL ?_ hrX Tryd.underlying81 ?_ ?_ ?_); rfl; rfl; exact cmd_info)
    | (go_at_call 43; refine (check_floorL _).mono ?_; rintro e w1 ⟨rfl, b1⟩)
    | fail)
  have hX1 := hX.below b1 hX.lt
  have hs1 := b1.size
  have HB1 := Lib.hid b1
  clear hrX hX b1
  go_upto_region 5 with (first
    | (go_at_call 98; refine (newWriter_w _).mono ?_; rintro e w2 ⟨g, rfl, hg, hW2, b2⟩)
    | fail)
  have hX := hX1.below b2 hX1.lt
  have hxg : x ≠ g := by omega
  have kept : ∀ (u v : World), Blk u x 81 floorCells → Fr u.heap.size (WS u g) u v → Blk v x 81 floorCells := fun u v hu f => hu.fr f hu.lt (fun hs => by
    rcases hs with hs | ⟨cs, hs⟩
    · exact hxg hs
    · exact hu.ne_type hs (by decide) rfl)
  have HK := Lib.hid kept
  have HB2 := Lib.hid b2
  have hN : WAt w2 g g [] ∧ Below g w2 w2 ∧ Fr w2.heap.size (WS w2 g) w2 w2 := ⟨hW2, Below.refl _ _, Fr.refl _ _ _⟩
  have HN := Lib.hid hN
  have HXX := Lib.hid hX
  have cX := hX.cell
  unfold floorCells at cX
  clear kept b2 hX1 hW2 hN hX
  go_upto_region 15 with (first
    | (go_at_call 99
       refine (num_int _ _ _ _ _ HN.out.1 (by decide) (by decide)).mono ?_
       rintro e wN ⟨rfl, h1, b1, f1⟩
       have HXX := Lib.hid (HK.out _ _ HXX.out f1)
       have HN := Lib.hid (NumW.trans (e := .returned (.tuple #[])) HN.out ⟨rfl, h1, b1, f1⟩).2
       have cX := HXX.out.cell
       unfold floorCells at cX
       clear b1 f1 h1)
    | (go_at_call 100
       refine (putId_int _ _ _ _ _ _ _ HN.out.1 (by decide) (by decide) (by decide) (by decide)).mono ?_
       rintro e wN ⟨rfl, h1, b1, f1⟩
       have HXX := Lib.hid (HK.out _ _ HXX.out f1)
       have HN := Lib.hid (NumW.trans (e := .returned (.tuple #[])) HN.out ⟨rfl, h1, b1, f1⟩).2
       have cX := HXX.out.cell
       unfold floorCells at cX
       clear b1 f1 h1)
    | (go_at_call 101
       refine (text_nil _ _ _ _ HN.out.1 (by decide)).mono ?_
       rintro e wN ⟨rfl, h1, b1, f1⟩
       have HXX := Lib.hid (HK.out _ _ HXX.out f1)
       have HN := Lib.hid (NumW.trans (e := .returned (.tuple #[])) HN.out ⟨rfl, h1, b1, f1⟩).2
       have cX := HXX.out.cell
       unfold floorCells at cX
       clear b1 f1 h1)
    | fail)
  go_wp2_with (fail)
  go_loop [61] (fun i => i = .int .i64 0) (fun i => 0)
  case atStart => rfl
  case round =>
    subst hrel
    go_wp2_with (first
      | (go_at_call 99
         refine (num_int _ _ _ _ _ HN.out.1 (by decide) (by decide)).mono ?_
         rintro e wN ⟨rfl, h1, b1, f1⟩
         have HXX := Lib.hid (HK.out _ _ HXX.out f1)
         have HN := Lib.hid (NumW.trans (e := .returned (.tuple #[])) HN.out ⟨rfl, h1, b1, f1⟩).2
         have cX := HXX.out.cell
         unfold floorCells at cX
         clear b1 f1 h1)
      | (go_at_call 102
         refine (done_some _ g g exBytes HN.out.1 (by decide)).mono ?_
         rintro e w9 ⟨A, c, rfl, o9, b9⟩)
      | fail)
    go_ret2
    have hb2 : Below w.heap.size w w2 := BW.out.trans ((HB1.out.mono BW.out.size).trans (HB2.out.mono (Nat.le_trans BW.out.size HB1.out.size)))
    have hbN := HN.out.2.1
    have hsN := hbN.size
    have hg' : w.heap.size ≤ g := Nat.le_trans (Nat.le_trans BW.out.size HB1.out.size) hg
    have hs2 := hb2.size
    refine ⟨A, c, rfl, o9.wider (by omega) (Nat.le_refl _), (hb2.trans (hbN.mono hg')).trans (b9.mono (by omega))⟩

end Go.Proofs.YtnlncfjibbdimaaDoor
