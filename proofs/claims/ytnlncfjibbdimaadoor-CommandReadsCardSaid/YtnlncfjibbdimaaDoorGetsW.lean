/-
  bollardnum's Bytes and Kept; CommandGets: the walk, and off the row's reading of its argument.
-/
import Derived.Test.YtnlncfjibbdimaaDoorRefX
import Derived.Laws.MakeOwn
import Derived.Deep.RegionHeld3
import Derived.Test.YtnlncfjibbdimaaDoorOpen2
import Derived.Test.YtnlncfjibbdimaaDoorWriter
import Derived.Test.YtnlncfjibbdimaaDoorDGet
import Derived.Test.YtnlncfjibbdimaaDoorReadX
import Derived.Test.YtnlncfjibbdimaaDoorSameC
import Derived.Test.YtnlncfjibbdimaaDoorAlive10
import Derived.Test.YtnlncfjibbdimaaDoorErrs
import Derived.Test.YtnlncfjibbdimaaDoorArgs
import Derived.Test.YtnlncfjibbdimaaDoorLift
import Derived.Test.YtnlncfjibbdimaaDoorFrame
namespace Go.Proofs.YtnlncfjibbdimaaDoor
open Go.RowKit
set_option linter.unusedSimpArgs false
set_option linter.unusedVariables false

def marks : List Nat := [201, 202, 203, 204, 205, 206]
/-- A copy at ad with the six marks behind it. -/
def Marked (w : World) (lo b c : Nat) (bs : List Nat) : Prop := Rd w lo w.heap.size 1 (some ⟨b, 0, none⟩) (bs ++ marks).length (u8s (bs ++ marks)) ∧ bs.length + 6 ≤ c ∧ c ≤ 9223372036854775807

set_option maxRecDepth 100000 in
set_option maxHeartbeats 1600000 in
theorem nbytes_any (w : World) (lo hi c : Nat) (A : Option Addr) (bs : List Nat) (hr : Rd w lo hi 1 A bs.length (u8s bs)) (hhi : hi ≤ w.heap.size) (hl : bs.length ≤ 140737488351232) :
    Calls Tryd.prog 49 #[.slice A bs.length c] w fun e w' => ∃ b c', e = .returned (.slice (some ⟨b, 0, none⟩) bs.length c') ∧ Marked w' w.heap.size b c' bs ∧ Below w.heap.size w w' := by
  obtain ⟨i0, hi0, hz0, hz1, hz2⟩ := info_parts8 u8_info
  obtain ⟨n, hn⟩ : ∃ n, n = bs.length := ⟨_, rfl⟩
  obtain ⟨m, hm⟩ : ∃ m, m = n + 6 := ⟨_, rfl⟩
  obtain ⟨w1, e1, o1, g1⟩ := run_make_own (P := Tryd.prog) w w.heap.size 84 5 i0 _ 1 Tryd.underlying84 hi0 hz0 hz1 .i64 .i64 m (by rw [hz2]; omega) (by simp only [maxLen]; omega) (Nat.le_refl _)
  have hO1 : OwnB w1 w.heap.size (.slice (some ⟨w.heap.size, 0, none⟩) 0 m) [] := ⟨⟨_, _, rfl⟩, by simp, o1⟩
  have hB1 : Below w.heap.size w w1 := (Below.refl w.heap.size w).grown g1 (Nat.le_refl _) (fun k hk => by cases hk)
  have hr1 := hr.fr (Fr.of_below hB1 (fun _ => False)) hhi (fun _ _ _ h => h)
  have hm1 : (n : Int) + 6 = (m : Int) := by omega
  have hm2 : (m : Int) ≤ 9223372036854775807 := by omega
  have hwm : IntKind.i64.wrap ((n : Int) + 6) = (m : Int) := by rw [IntKind.wrap_i64]; omega
  have H := Lib.hid (And.intro hO1 (And.intro hB1 (And.intro hr1 (And.intro hn (And.intro hm hl)))))
  rw [← hn]
  clear hO1 hB1 hr1 hr hl hn hm o1 g1
  go_enter Tryd.func49, Tryd.ntmps49
  go_upto_region 2 with (first
    | (at_builtin
       refine law_append8 (.tmp 7) (.tmp 8) w.heap.size lo hi (.slice (some ⟨w.heap.size, 0, none⟩) 0 m) [] bs A c rfl rfl rfl H.out.1 (by rw [← H.out.2.2.2.1]; rfl) H.out.2.2.1 (by have := H.out.2.2.2.2; simp; omega) H.out.2.1.size ?_
       simp only [List.length_nil, Nat.zero_add, List.nil_append]
       intro A1 c1 W1 o1 f1
       have hbA : Below W1.heap.size W1 (W1.alloc (.cells #[.int .u8 201, .int .u8 202, .int .u8 203, .int .u8 204, .int .u8 205, .int .u8 206] 5)) := (Below.refl W1.heap.size W1).alloc (Nat.le_refl _) _
       have hrm : Rd (W1.alloc (.cells #[.int .u8 201, .int .u8 202, .int .u8 203, .int .u8 204, .int .u8 205, .int .u8 206] 5)) 0 (W1.heap.size + 1) 1 (some ⟨W1.heap.size, 0, none⟩) marks.length (u8s marks) :=
         ⟨rfl, fun _ => ⟨_, rfl, Nat.zero_le _, by simp, fun j u hu => by rw [Addr.add_mid, Nat.zero_add, (Blk.new W1 5 _).cell j]; simpa [u8s, marks] using hu⟩⟩
       have H1 := Lib.hid (And.intro (o1.below hbA (Nat.le_refl _)) (And.intro hrm (And.intro ((H.out.2.1.trans f1.1).alloc (Nat.le_trans H.out.2.1.size f1.size) (.cells #[.int .u8 201, .int .u8 202, .int .u8 203, .int .u8 204, .int .u8 205, .int .u8 206] 5)) H.out.2.2.2)))
       clear o1 f1 hbA hrm)
    | (at_builtin
       refine law_append8 (.tmp 9) (.tmp 10) w.heap.size 0 (W1.heap.size + 1) (.slice A1 bs.length c1) bs marks (some ⟨W1.heap.size, 0, none⟩) 6 rfl rfl rfl H1.out.1 rfl H1.out.2.1 (by have := H1.out.2.2.2.2.2; simp [marks]; omega) H1.out.2.2.1.size ?_
       intro A2 c2 W2 o2 f2
       have H2 := Lib.hid (And.intro o2 (H1.out.2.2.1.trans f2.1))
       clear o2 f2)
    | fail)
  obtain ⟨b2, rfl, hcap⟩ : ∃ b2, A2 = some ⟨b2, 0, none⟩ ∧ (bs.length + marks.length ≤ c2 ∧ c2 ≤ 9223372036854775807) := by
    obtain ⟨_, _, h⟩ := H2.out.1
    rcases h.2 with ⟨_, h2⟩ | ⟨g, cap, cur, h1, _, _, h2, h3, _⟩
    · simp [marks] at h2
    · injection h1 with h1 h4 h5
      subst h1
      subst h5
      refine ⟨g, rfl, ?_, ?_⟩
      · simpa using h2
      · simpa [maxLen] using h3
  have hl6 : marks.length = 6 := rfl
  have hM : Marked W2 w.heap.size b2 c2 bs := ⟨by
    have h := H2.out.1
    have h22 := h.2.2
    rw [← List.length_append] at h22
    exact Rd.of_own h22 (fun g hg => (h22.lt g hg).2), by omega, hcap.2⟩
  have HM := Lib.hid hM
  have hn0 : (n : Int) ≤ (c2 : Int) := by have := H.out.2.2.2.1; omega
  have hn1 : n ≤ c2 := by omega
  have HN := Lib.hid H.out.2.2.2.1
  clear hM hl6 hcap
  go_wp2_with (fail)
  go_ret
  exact ⟨b2, c2, rfl, HM.out, H2.out.2⟩


theorem Rd.take {w : World} {lo hi b o : Nat} {xs ys : List Nat} (h : Rd w lo hi 1 (some ⟨b, o, none⟩) (xs ++ ys).length (u8s (xs ++ ys))) : Rd w lo hi 1 (some ⟨b, o, none⟩) xs.length (u8s xs) := by
  have := h.sub (p := 0) (xs := xs) (fun j x hj => by rw [Nat.zero_add, List.getElem?_append_left (List.getElem?_eq_some_iff.1 hj).1]; exact hj)
  rw [Nat.add_zero] at this
  exact this

set_option maxRecDepth 100000 in
set_option maxHeartbeats 1600000 in
theorem kept_any (w : World) (lo b c : Nat) (bs : List Nat) (h : Marked w lo b c bs) (hi d : Nat) (A : Option Addr) (hr : Rd w 0 hi 1 A bs.length (u8s bs)) (hA : A = none → d = 0) (h256 : ∀ x ∈ bs, x < 256) (hl : bs.length ≤ 140737488351232) :
    Calls Tryd.prog 51 #[.slice (some ⟨b, 0, none⟩) bs.length c, .slice A bs.length d] w fun e w' => e = .returned (.bool true) ∧ Below w.heap.size w w' := by
  obtain ⟨hm, hc1, hc2⟩ := h
  have e1 : (convert 84 9 (.slice (some ⟨b, 0, none⟩) bs.length c)).run Tryd.prog w.drew = .ok (.string (textOf bs)) w.drew :=
    conv_bytes (W := w.drew) (lo := lo) (hi := w.heap.size) h256 (hm.take.fr (Fr.of_below ((Below.refl w.heap.size w).drew) (fun _ => False)) (Nat.le_refl _) (fun _ _ _ h => h)) (fun h => by cases h)
  have e2 : (convert 84 9 (.slice A bs.length d)).run Tryd.prog w.drew = .ok (.string (textOf bs)) w.drew :=
    conv_bytes (W := w.drew) (lo := 0) (hi := hi) h256 (hr.keep (fun p _ _ => rfl)) hA
  have hcl : ∀ (k x : Nat), marks[k]? = some x → w.drew.cell? ⟨b, bs.length + k, none⟩ = some (.int .u8 x) := fun k x hk => by
    have := hm.at8 (k := bs.length + k) (x := x) (by rw [List.getElem?_append_right (by omega), Nat.add_sub_cancel_left]; exact hk)
    rw [Nat.zero_add] at this
    exact this
  have hmk : ∀ k : Nat, k < 6 → marks[k]? = some (201 + k) := fun k hk => by
    have : k = 0 ∨ k = 1 ∨ k = 2 ∨ k = 3 ∨ k = 4 ∨ k = 5 := by omega
    rcases this with rfl | rfl | rfl | rfl | rfl | rfl <;> rfl
  have HC := Lib.hid (fun k hk => hcl k _ (hmk k hk))
  obtain ⟨n, hn⟩ : ∃ n, n = bs.length := ⟨_, rfl⟩
  rw [← hn] at e1 e2 HC hl hc1 ⊢
  have hnc : ¬ (c : Int) < (n : Int) + 6 := by omega
  have hnc1 : (n : Int) ≤ c := by omega
  have hwn : IntKind.i64.wrap ((n : Int) + 6) = (n : Int) + 6 := by rw [IntKind.wrap_i64]; omega
  clear hcl hmk hm hr hn h256
  go_enter Tryd.func51, Tryd.ntmps51
  go_upto_region 2 with (fail)
  go_region_held3 (fun w' => (convert 84 9 (.slice (some ⟨b, 0, none⟩) n c)).run Tryd.prog w' = .ok (.string (textOf bs)) w' ∧ (convert 84 9 (.slice A n d)).run Tryd.prog w' = .ok (.string (textOf bs)) w') (go_keep) (fail)
  go_wp2_with (fail)
  go_loop [6] (fun v => ∃ (k : Nat), k ≤ 6 ∧ v = .int .i64 k) (fun v => 6 - (intOf v).toNat)
  case atStart => exact ⟨0, by omega, rfl⟩
  case round =>
    obtain ⟨k, hk, rfl⟩ := hrel
    by_cases hlt : k < 6
    · have hck := HC.out k hlt
      have hk1 : (n : Int) + (k : Int) < c := by omega
      have hk2 : (201 : Int) + (k : Int) = ((201 + k : Nat) : Int) := by omega
      have hk3 : IntKind.u8.wrap (((201 + k : Nat) : Int)) = ((201 + k : Nat) : Int) := wraps_u8 _ (by omega) (by omega)
      obtain ⟨x, hx⟩ : ∃ x, x = 201 + k := ⟨_, rfl⟩
      rw [← hx] at hck hk2 hk3
      have hx1 : (x : Int) ≤ 255 := by omega
      clear hx
      go_wp2_with (fail)
      go_round
      case rel => exact ⟨k + 1, by omega, by go_num⟩
      case measure => simp [intOf]; omega
    · obtain rfl : k = 6 := by omega
      go_wp2_with (fail)
      go_ret
      exact ⟨rfl, (Below.refl _ _).drew⟩

end Go.Proofs.YtnlncfjibbdimaaDoor

namespace Go.Proofs.YtnlncfjibbdimaaDoor
open Go.ChangeShapes Go.WideShapes Go.ChangeAt Go.RowKit Go.Deep
set_option linter.unusedSimpArgs false
set_option linter.unusedVariables false

section
variable {H : Type} {enc : TypeId × Value → H} {w : World} {base : Nat} {spare : Nat → Bool} {held : Bool} {fuel : Nat} {cs : List Value} {x : DataW H × List MemPlace}
theorem bounds_u8 {n : Int} (h : (Lit.int .u8 n).wf = true) : 0 ≤ n ∧ n ≤ 255 := by
  simp [Lit.wf, IntKind.min, IntKind.max, IntKind.signed, IntKind.bits] at h
  omega
theorem trod_u8 (h : DataW.trod enc Tryd.prog w base spare held fuel 5 cs = some x) : ∃ n : Nat, cs = [.int .u8 n] ∧ n < 256 := by
  obtain ⟨n, h1, _, h2⟩ := DataW.trod_int Tryd.underlying5 h
  have := bounds_u8 h2
  exact ⟨n.toNat, by rw [Int.toNat_of_nonneg this.1]; exact h1, by omega⟩
theorem bytesOf5 : Tryd.prog.bytesOf 5 = 1 := by kernel_rfl
theorem cellsOf5 : Tryd.prog.cellsOf 5 = 1 := by kernel_rfl

/-- A slice of bytes reads as a row. -/
theorem open_bytes (h : DataW.trod enc Tryd.prog w base spare held fuel 84 cs = some x) (hx : Light 84 x.1) :
    ∃ (A : Option Addr) (c : Nat) (bs : List Nat), cs = [.slice A bs.length c] ∧ Rd w 0 w.heap.size 1 A bs.length (u8s bs) ∧ bs.length ≤ 140737488351232 ∧ (bs.length ≤ c ∧ c ≤ 9223372036854775807) ∧ (A = none → c = 0) ∧ ∀ b ∈ bs, b < 256 := by
  have hnil : ∀ A n c, cs = [.slice A n c] → A = none → c = 0 := fun A n c hcs hA => by
    rcases DataW.trod_slice Tryd.underlying84 h with ⟨e, _⟩ | ⟨a, len, cap, elems, rest, n', _, e, _⟩
    · rw [e] at hcs
      injection hcs with hcs
      injection hcs with _ _ hcs
      exact hcs.symm
    · rw [e] at hcs
      injection hcs with hcs
      injection hcs with hcs
      rw [hA] at hcs
      cases hcs
  obtain ⟨A, n, c, rfl, h1, h2, h3, h4⟩ := open_rows 1 1 Tryd.underlying84 cellsOf5 bytesOf5 h hx
  obtain ⟨f, hf⟩ := choose_lt (α := Nat) (n := n) (p := fun i z => z < 256 ∧ ∃ ad, A = some ad ∧ w.cell? (ad.add i) = some (.int .u8 z)) (fun i hi => by
    obtain ⟨ad, cs', m, y, e1, e2, e3, e4, _⟩ := h4 i hi
    obtain ⟨z, rfl, hz⟩ := trod_u8 e4
    exact ⟨z, hz, ad, e1, by have := e2 0 (by omega); simpa using this⟩)
  have hlen : ((List.range n).map f).length = n := by simp
  simp only [maxLen] at h2
  refine ⟨A, c, (List.range n).map f, by rw [hlen], ?_, by rw [hlen]; unfold reachBytes at h3; omega, ⟨by rw [hlen]; exact h1, by omega⟩, hnil A n c rfl, ?_⟩
  · rw [hlen]
    refine ⟨by simp [u8s], fun hn => ?_⟩
    obtain ⟨_, ad, rfl, hc⟩ := hf 0 hn
    refine ⟨ad, rfl, Nat.zero_le _, ?_, ?_⟩
    · have := World.block_lt_of_cell? w _ hc
      rwa [block_of_add] at this
    · intro j u hu
      have hj : j < n := by
        have := (List.getElem?_eq_some_iff.1 hu).1
        simpa [u8s] using this
      obtain ⟨_, ad', e, hc'⟩ := hf j hj
      injection e with e
      subst e
      have : u = .int .u8 (f j) := by
        simp [u8s, hj] at hu
        exact hu.symm
      rw [this]
      exact hc'
  · intro b hb
    obtain ⟨i, hi, rfl⟩ := List.mem_map.1 hb
    exact (hf i (List.mem_range.1 hi)).1
end

end Go.Proofs.YtnlncfjibbdimaaDoor

namespace Go.Proofs.YtnlncfjibbdimaaDoor
open Go.RowKit
set_option linter.unusedSimpArgs false
set_option linter.unusedVariables false

/-- The command that is answered. -/
def gans (bs : List Nat) : Cmd := (gcmd bs).getD zeroCmd

theorem GetAny.flat {a2 : Addr} {bs : List Nat} {w w' : World} {e : Ending} (h : GetAny a2 bs w e w') :
    ∃ pv, e = .returned (.tuple #[.agg ((gans bs).cells pv).toArray, if (gcmd bs).isSome = true then .nilIface else errv a2]) ∧ IntsAt w' 0 w'.heap.size pv (gans bs).parts ∧ Below w.heap.size w w' := by
  rcases h with ⟨c, h1, h2, pv, rfl, ho, hb⟩ | ⟨h1, rfl, hb⟩
  · unfold gans
    rw [gcmd_some h1 h2]
    exact ⟨pv, rfl, (ho.wider (Nat.zero_le _) (Nat.le_refl _)).at_, hb⟩
  · unfold gans
    rw [gcmd_none h1]
    exact ⟨.slice none 0 0, rfl, IntsAt.nil_ _ _ _, hb⟩
theorem RGetPost.flat {bs : List Nat} {w w' : World} {e : Ending} (h : RGetPost bs w e w') :
    ∃ pv, e = .returned (.tuple #[.agg ((gans bs).cells pv).toArray, .bool (gcmd bs).isSome]) ∧ IntsAt w' 0 w'.heap.size pv (gans bs).parts ∧ Below w.heap.size w w' := by
  rcases h with ⟨c, pv, h1, h2, rfl, ho, hb⟩ | ⟨h1, rfl, hb⟩
  · unfold gans
    rw [gcmd_some h1 h2]
    exact ⟨pv, rfl, (ho.wider (Nat.zero_le _) (Nat.le_refl _)).at_, hb⟩
  · unfold gans
    rw [gcmd_none h1]
    exact ⟨.slice none 0 0, rfl, IntsAt.nil_ _ _ _, hb⟩
theorem Marked.below {w w' : World} {lo b c : Nat} {bs : List Nat} (h : Marked w lo b c bs) (hb : Below w.heap.size w w') : Marked w' lo b c bs :=
  ⟨(h.1.fr (Fr.of_below hb (fun _ => False)) (Nat.le_refl _) (fun _ _ _ h => h)).wider (Nat.le_refl _) hb.size, h.2⟩
/-- What holds through the law. -/
def GSt (w : World) (lo b c' x : Nat) (cm : Cmd) (pv : Value) (bs : List Nat) (W : World) : Prop := Below w.heap.size w W ∧ Marked W lo b c' bs ∧ Blk W x 81 (cm.cells pv).toArray ∧ IntsAt W 0 x pv cm.parts
theorem GSt.below {w W W' : World} {lo b c' x : Nat} {cm : Cmd} {pv : Value} {bs : List Nat} (h : GSt w lo b c' x cm pv bs W) (hb : Below W.heap.size W W') : GSt w lo b c' x cm pv bs W' :=
  ⟨h.1.trans (hb.mono h.1.size), h.2.1.below hb, h.2.2.1.below hb h.2.2.1.lt, h.2.2.2.fr (Fr.of_below hb (fun _ => False)) (Nat.le_of_lt h.2.2.1.lt) (fun _ _ _ h => h)⟩

theorem intsAt_one {w : World} {lo hi : Nat} {pv : Value} {c : Cmd} (h : IntsAt w lo hi pv c.parts) : (c.cells pv).toArray.all (·.oneCell') = true := by
  obtain ⟨A0, c0, hpv, _⟩ := h
  rw [hpv]
  exact cells_oneCell _ _ _ _

set_option maxRecDepth 100000 in
set_option maxHeartbeats 6400000 in
theorem gets_any (w : World) (hi c : Nat) (A : Option Addr) (bs : List Nat) (hr : Rd w 0 hi 1 A bs.length (u8s bs)) (hhi : hi ≤ w.heap.size) (hl : bs.length ≤ 140737488351232) (hc : bs.length ≤ c ∧ c ≤ 9223372036854775807) (hA : A = none → c = 0)
    (h256 : ∀ x ∈ bs, x < 256) (a1 : Addr) (h1 : w.cell? ⟨1, 0, none⟩ = some (errv a1)) (a2 : Addr) (h2 : w.cell? ⟨2, 0, none⟩ = some (errv a2)) :
    Calls Tryd.prog 9 #[.slice A bs.length c] w fun e w' => e = .returned (.bool true) ∧ Below w.heap.size w w' := by
  have h01 := World.block_lt_of_cell? w _ h1
  have h02 := World.block_lt_of_cell? w _ h2
  have hG1 : ∀ W, Below w.heap.size w W → W.cell? ⟨1, 0, none⟩ = some (errv a1) := fun W b => (b.cell h01).trans h1
  have hG2 : ∀ W, Below w.heap.size w W → W.cell? ⟨2, 0, none⟩ = some (errv a2) := fun W b => (b.cell h02).trans h2
  have hRd : ∀ W, Below w.heap.size w W → Rd W 0 hi 1 A bs.length (u8s bs) := fun W b => hr.fr (Fr.of_below b (fun _ => False)) hhi (fun _ _ _ h => h)
  have H := Lib.hid (And.intro hhi (And.intro hl (And.intro hc (And.intro hA (And.intro h256 (And.intro hG1 (And.intro hG2 hRd)))))))
  obtain ⟨n, hn⟩ : ∃ n, n = bs.length := ⟨_, rfl⟩
  rw [← hn]
  have HN := Lib.hid hn
  clear hr hhi hl hc hA h256 h1 h2 hG1 hG2 hRd h01 h02 hn
  go_enter Tryd.func9, Tryd.ntmps9
  go_upto_region 3 with (first | (go_at_call 35; refine (alive10_any _).mono ?_; rintro e w1 ⟨rfl, b1⟩; have B1 := Lib.hid b1; clear b1) | fail)
  have k49 := nbytes_any w1 0 hi c A bs (H.out.2.2.2.2.2.2.2 w1 B1.out) (Nat.le_trans H.out.1 B1.out.size) H.out.2.1
  rw [← HN.out] at k49
  have HK49 := Lib.hid k49
  clear k49
  go_upto_region 4 with (first | (go_at_call 49; refine HK49.out.mono ?_; rintro e w2 ⟨b, c', rfl, m2, b2⟩; have H2 := Lib.hid (And.intro m2 (B1.out.trans (b2.mono B1.out.size))); clear m2 b2) | fail)
  have k47 := get_any w2 ⟨b, 0, none⟩ c' bs (by have := H.out.2.1; omega) H.out.2.2.2.2.1 (H2.out.1.1.take.wider (Nat.zero_le _) (Nat.le_refl _)) a1 (H.out.2.2.2.2.2.1 w2 H2.out.2) a2 (H.out.2.2.2.2.2.2.1 w2 H2.out.2)
  rw [← HN.out] at k47
  have HK47 := Lib.hid k47
  clear k47 HK49
  obtain ⟨cm, hcm⟩ : ∃ cm, cm = gans bs := ⟨_, rfl⟩
  obtain ⟨ok, hok⟩ : ∃ ok, ok = (gcmd bs).isSome := ⟨_, rfl⟩
  obtain ⟨ev, hev⟩ : ∃ ev, ev = if ok = true then Value.nilIface else errv a2 := ⟨_, rfl⟩
  have HCM := Lib.hid (And.intro hcm (And.intro hok hev))
  clear hcm hok hev
  go_upto_region 5 with (first
    | (go_at_call 47
       refine HK47.out.mono ?_
       rintro e w3 hg
       obtain ⟨pv, rfl, hp, b3⟩ := hg.flat
       rw [← HCM.out.1] at hp ⊢
       rw [← HCM.out.2.1, ← HCM.out.2.2]
       have hone := intsAt_one hp
       have H3 := Lib.hid (And.intro hp (And.intro b3 hone))
       clear hp b3 hone hg)
    | ((with_reducible refine law_store_fresh 81 (.tmp 4) (.tmp 17) w3 81 _ (cm.cells pv).toArray ?_ ?_ rfl ?_ ?_ H3.out.2.2 ?_); rfl; rfl; exact cmd_info; rfl)
    | fail)
  have hbA : Below w2.heap.size w2 (w3.alloc (.cells (cm.cells pv).toArray 81)) := H3.out.2.1.alloc H3.out.2.1.size _
  refine wp_letter (fun W => GSt w w1.heap.size b c' w3.heap.size cm pv bs W)
    ⟨H2.out.2.trans (hbA.mono H2.out.2.size), H2.out.1.below hbA, Blk.new w3 81 _, H3.out.1.fr (Fr.of_below ((Below.refl w3.heap.size w3).alloc (Nat.le_refl _) _) (fun _ => False)) (Nat.le_refl _) (fun _ _ _ h => h)⟩ ?_
  obtain ⟨x, hx⟩ : ∃ x, x = w3.heap.size := ⟨_, rfl⟩
  rw [← hx]
  clear hbA hx H3 HK47
  rintro W4 hS
  have S4 := Lib.hid hS
  clear hS
  have k50 := rget_any W4 hi c A bs (H.out.2.2.2.2.2.2.2 W4 S4.out.1) (Nat.le_trans H.out.1 S4.out.1.size) ⟨by have := H.out.2.1; omega, H.out.2.2.1, H.out.2.2.2.2.1⟩
  rw [← HN.out] at k50
  have HK50 := Lib.hid k50
  clear k50
  go_upto_region 6 with (first
    | (go_at_call 50
       refine HK50.out.mono ?_
       rintro e w5 hg
       obtain ⟨pv5, rfl, hp, b5⟩ := hg.flat
       rw [← HCM.out.1] at hp ⊢
       rw [← HCM.out.2.1]
       have hone := intsAt_one hp
       have H5 := Lib.hid (And.intro hp (And.intro b5 hone))
       clear hp b5 hone hg)
    | ((with_reducible refine law_store_fresh 81 (.tmp 6) (.tmp 22) w5 81 _ (cm.cells pv5).toArray ?_ ?_ rfl ?_ ?_ H5.out.2.2 ?_); rfl; rfl; exact cmd_info; rfl)
    | fail)
  have hbA : Below W4.heap.size W4 (w5.alloc (.cells (cm.cells pv5).toArray 81)) := H5.out.2.1.alloc H5.out.2.1.size _
  refine wp_letter (fun W => GSt w w1.heap.size b c' x cm pv bs W ∧ Blk W w5.heap.size 81 (cm.cells pv5).toArray ∧ IntsAt W 0 w5.heap.size pv5 cm.parts)
    ⟨S4.out.below hbA, Blk.new w5 81 _, H5.out.1.fr (Fr.of_below ((Below.refl w5.heap.size w5).alloc (Nat.le_refl _) _) (fun _ => False)) (Nat.le_refl _) (fun _ _ _ h => h)⟩ ?_
  obtain ⟨z, hz⟩ : ∃ z, z = w5.heap.size := ⟨_, rfl⟩
  rw [← hz]
  clear hbA hz H5 HK50 S4
  rintro W6 ⟨hS, hZ, hpz⟩
  have S6 := Lib.hid (And.intro hS (And.intro hZ hpz))
  clear hS hZ hpz
  have k51 := kept_any W6 w1.heap.size b c' bs S6.out.1.2.1 hi c A (H.out.2.2.2.2.2.2.2 W6 S6.out.1.1) H.out.2.2.2.1 H.out.2.2.2.2.1 H.out.2.1
  rw [← HN.out] at k51
  have HK51 := Lib.hid k51
  clear k51
  go_upto_region 6 with (fail)
  obtain ⟨CS1, hCS1⟩ : ∃ cs, cs = cm.cells pv := ⟨_, rfl⟩
  obtain ⟨CS2, hCS2⟩ : ∃ cs, cs = cm.cells pv5 := ⟨_, rfl⟩
  have hc1 : (Tryd.prog.info? 81).map (·.size) = some CS1.length := by rw [hCS1]; exact cmd_info
  have hc2 : (Tryd.prog.info? 81).map (·.size) = some CS2.length := by rw [hCS2]; exact cmd_info
  have HC1 := Lib.hid hCS1
  have HC2 := Lib.hid hCS2
  clear hCS1 hCS2
  go_upto_region 8 with (first
    | (go_at_call 51
       refine HK51.out.mono ?_
       rintro e w7 ⟨rfl, b7⟩
       have S7 := Lib.hid (S6.out.1.below b7)
       have hZ7 := S6.out.2.1.below b7 S6.out.2.1.lt
       have hp7 := S6.out.2.2.fr (Fr.of_below b7 (fun _ => False)) (Nat.le_of_lt S6.out.2.1.lt) (fun _ _ _ h => h)
       have hr1 := S7.out.2.2.1.range
       have hr2 := hZ7.range
       rw [← HC1.out] at hr1
       rw [← HC2.out] at hr2
       have hld1 := run_loadVar_mid (P := Tryd.prog) w7 x 0 81 CS1 _ hr1 Tryd.underlying81 rfl hc1
       have hld2 := run_loadVar_mid (P := Tryd.prog) w7 z 0 81 CS2 _ hr2 Tryd.underlying81 rfl hc2
       have k45 := sameCommand_any w7 0 x 0 z pv pv5 cm cm S7.out.2.2.2 hp7 (Nat.le_of_lt S7.out.2.2.1.lt) (Nat.le_of_lt hZ7.lt)
       rw [tf_true rfl, ← HC1.out, ← HC2.out] at k45
       have HK45 := Lib.hid k45
       simp [go_sem] at hld1 hld2
       clear b7 hZ7 hp7 hr1 hr2 k45)
    | (go_at_call 45
       refine HK45.out.mono ?_
       rintro e w8 ⟨rfl, b8⟩
       have S8 := Lib.hid (S7.out.below b8)
       clear b8)
    | fail)
  clear hld1 hld2
  cases ok with
  | false =>
    obtain rfl : ev = errv a2 := by rw [HCM.out.2.2]; rfl
    have cE := H.out.2.2.2.2.2.2.1 w8 S8.out.1
    have hee := errEq_same a2
    go_wp2_with (fail)
    go_ret
    exact ⟨rfl, S8.out.1⟩
  | true =>
    obtain rfl : ev = .nilIface := by rw [HCM.out.2.2]; rfl
    have hg : ∃ d, gcmd bs = some d := by
      have := HCM.out.2.1
      cases hg : gcmd bs with
      | none => rw [hg] at this; cases this
      | some d => exact ⟨d, rfl⟩
    obtain ⟨d, hg⟩ := hg
    have hcd : cm = d := by rw [HCM.out.1]; unfold gans; rw [hg]; rfl
    subst hcd
    obtain ⟨hp, hk⟩ := gcmd_inv hg
    have hsz := (pCmd_inv H.out.2.2.2.2.1 hp).1
    have hput : putN cm = bs := (pCmd_put H.out.2.2.2.2.1 hp hk).symm
    have k44 := put_any8 cm ⟨by simp only [maxLen]; omega, by simp only [maxLen]; omega, by simp only [maxLen]; omega⟩ w8 0 x pv S8.out.2.2.2 (Nat.le_of_lt S8.out.2.2.1.lt) a1 (H.out.2.2.2.2.2.1 w8 S8.out.1)
    have HK44 := Lib.hid k44
    have HP := Lib.hid (And.intro hk hput)
    have hr8 := S8.out.2.2.1.range
    clear k44 hput hk hp hg hsz
    go_upto_region 11 with (first
      | ((with_reducible refine law_load 81 (.tmp 4) x 0 (cm.cells pv) ?_ hr8 Tryd.underlying81 ?_ ?_ ?_); rfl; rfl; exact cmd_info)
      | (go_at_call 44
         refine HK44.out.mono ?_
         rintro e w9 ⟨_, hd⟩
         obtain ⟨A6, c6, rfl, o6, b6⟩ := hd HP.out.1
         rw [HP.out.2] at o6 ⊢
         have H9 := Lib.hid (And.intro o6 b6)
         clear hd o6 b6)
      | fail)
    have hb9 := S8.out.1.trans (H9.out.2.mono S8.out.1.size)
    have hv1 : (convert 84 9 (.slice A6 bs.length c6)).run Tryd.prog w9 = .ok (.string (textOf bs)) w9 :=
      conv_bytes (W := w9) (lo := w8.heap.size) (hi := w9.heap.size) H.out.2.2.2.2.1 (Rd.of_own H9.out.1.1 (fun g hg => (H9.out.1.1.lt g hg).2)) (fun hA => by
        subst hA
        rcases H9.out.1.1.2 with ⟨h1, _⟩ | ⟨_, _, _, h1, _⟩
        · injection h1
        · injection h1 with h1
          cases h1)
    have hv2 : (convert 84 9 (.slice A bs.length c)).run Tryd.prog w9 = .ok (.string (textOf bs)) w9 := conv_bytes H.out.2.2.2.2.1 (H.out.2.2.2.2.2.2.2 w9 hb9) H.out.2.2.2.1
    rw [← HN.out] at hv1 hv2 ⊢
    have HB9 := Lib.hid hb9
    clear hb9
    go_wp2_with (fail)
    go_ret
    exact ⟨rfl, HB9.out⟩

end Go.Proofs.YtnlncfjibbdimaaDoor

namespace Go.Proofs.YtnlncfjibbdimaaDoor
open Go.ChangeShapes Go.WideShapes Go.ChangeAt Go.RowKit Go.Deep
set_option linter.unusedSimpArgs false
set_option linter.unusedVariables false

def sentsCommandGets : List (String × Nat × List UInt8) := [("bollard/api.ErrNumber", 0, [98, 111, 108, 108, 97, 114, 100, 58, 32, 110, 117, 109, 98, 101, 114]), ("bollard/api.ErrBytes", 2, [98, 111, 108, 108, 97, 114, 100, 58, 32, 98, 121, 116, 101, 115]), ("bollard/api.ErrState", 1, [98, 111, 108, 108, 97, 114, 100, 58, 32, 115, 116, 97, 116, 101])]
theorem sentsCommandGets_ok : ∀ x ∈ sentsCommandGets, SentOk x := by
  intro x hx
  simp only [sentsCommandGets, List.mem_cons, List.not_mem_nil, or_false] at hx
  rcases hx with rfl | rfl | rfl
  · exact ⟨by kernel_rfl, by kernel_rfl⟩
  · exact ⟨by kernel_rfl, by kernel_rfl⟩
  · exact ⟨by kernel_rfl, by kernel_rfl⟩

set_option maxRecDepth 100000 in
theorem commandGets_walk : LawWalk 9 Tryd.f9 (sentsCommandGets.map (·.2.1)) := by
  intro H enc W base args ds p A hA hval hsz hlt hE
  rw [Tryd.params9] at hA hval hsz
  obtain ⟨v0, vs0, d0, ds0, p0, q0, hargs, rfl, rfl, h0, r0⟩ := trodAll_cons hA
  obtain ⟨rfl, rfl, rfl⟩ := trodAll_nil r0
  obtain rfl : args = #[v0] := by cases args; simp_all
  have hl0 : Light 84 d0 := light_of_each (j := 0) hsz rfl rfl
  have c0 := arg_slice' Tryd.underlying84 (hval 0 84 v0 rfl rfl)
  obtain ⟨f0, h0⟩ := h0
  rw [c0] at h0
  obtain ⟨B, c, bs, hcs, hr, hl, hc, hB, h256⟩ := open_bytes h0 hl0
  injection hcs with hcs _
  subst hcs
  exact gets_any W W.heap.size c B bs hr (Nat.le_refl _) hl hc hB h256 (A 1) (hE.cell 1 (by decide)) (A 2) (hE.cell 2 (by decide))

end Go.Proofs.YtnlncfjibbdimaaDoor
