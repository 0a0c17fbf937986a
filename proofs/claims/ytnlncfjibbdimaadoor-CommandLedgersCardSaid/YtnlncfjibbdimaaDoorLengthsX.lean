/-
  A slice literal of two commands; a command's argument opened; CommandLengths: the walk, and off the row's reading of its arguments.
-/
import Derived.Test.YtnlncfjibbdimaaDoorLaws
import Derived.Great.BuildSlice
import Derived.Test.YtnlncfjibbdimaaDoorReadX
import Derived.Test.YtnlncfjibbdimaaDoorInLaw
import Derived.Test.YtnlncfjibbdimaaDoorSameC
import Derived.Test.YtnlncfjibbdimaaDoorAlive10
import Derived.Deep.RegionHeld3
import Derived.Deep.MidRow
import Derived.Test.YtnlncfjibbdimaaDoorOpen2
import Derived.Test.YtnlncfjibbdimaaDoorCheck
import Derived.Test.YtnlncfjibbdimaaDoorArgs
import Derived.Test.YtnlncfjibbdimaaDoorLift
import Derived.Test.YtnlncfjibbdimaaDoorFrame
namespace Go.Proofs.YtnlncfjibbdimaaDoor
open Go.RowKit
set_option linter.unusedSimpArgs false
set_option linter.unusedVariables false

theorem foldl_shift (size : Nat) : ∀ (l : List Value) (k : Nat) (ini : Array Value), (l.zipIdx k).foldl (fun (cs : Array Value) (x : Value × Nat) => cs.setIfInBounds (size + x.2) x.1) ini = (l.zipIdx (size + k)).foldl (fun (cs : Array Value) (x : Value × Nat) => cs.setIfInBounds x.2 x.1) ini
  | [], _, _ => rfl
  | a :: l, k, ini => by
    rw [List.zipIdx_cons, List.zipIdx_cons, List.foldl_cons, List.foldl_cons, foldl_shift size l (k + 1), ← Nat.add_assoc]
theorem foldl_size : ∀ (l : List (Value × Nat)) (ini : Array Value), (l.foldl (fun (cs : Array Value) (x : Value × Nat) => cs.setIfInBounds x.2 x.1) ini).size = ini.size
  | [], _ => rfl
  | a :: l, ini => by rw [List.foldl_cons, foldl_size l]; simp

theorem fill_two (size : Nat) (ini a b : Array Value) (h1 : a.size = size) (h2 : b.size = size) (h3 : ini.size = 2 * size) : Instr.fill (fun j => some (j * size, size)) ini [(0, .agg a), (1, .agg b)] = some (a ++ b) := by
  have ha : (Value.agg a).cells = a := rfl
  have hb : (Value.agg b).cells = b := rfl
  have hza : a.zipIdx = (a.toList.zipIdx 0).toArray := by rw [← Array.toList_zipIdx, Array.toArray_toList]
  have hzb : b.zipIdx = (b.toList.zipIdx 0).toArray := by rw [← Array.toList_zipIdx, Array.toArray_toList]
  have hf := foldl_set (a.toList ++ b.toList) 0 ini (by simp [h1, h2, h3]; omega)
  simp only [Instr.fill, ha, hb, Nat.zero_mul, Nat.zero_add, Nat.one_mul]
  rw [hza, hzb, List.foldl_toArray, List.foldl_toArray, foldl_size, foldl_shift]
  have hz : (a.toList ++ b.toList).zipIdx 0 = a.toList.zipIdx 0 ++ b.toList.zipIdx (size + 0) := by
    rw [List.zipIdx_append, Array.length_toList, h1, Nat.zero_add, Nat.add_zero]
  rw [hz, List.foldl_append] at hf
  rw [if_neg (by simp [h1, h3]; omega), if_neg (by simp [h2, h3]; omega), hf]
  simp

section
variable {P : Program} {ops : Array Oper} {rest : List Oper} {a : Act} {W : World} {Q : Exit → Act → World → Prop} {d : Option Tmp} {tp : TypeId} {ps : String} {af : Array Edge}
/-- A slice of two structs is laid. -/
theorem law_buildSlice2 (t e : TypeId) (x y : Operand) (i : TypeInfo) (z : Value) (cx cy : Array Value) (n : Nat) (hx : a.eval x = .agg cx) (hy : a.eval y = .agg cy) (ht : P.underlying t = some (.slice e)) (hi : P.info? e = some i) (hz : i.zero = some z)
    (hs : i.size = n) (h1 : cx.size = n) (h2 : cy.size = n) (h0 : 0 < n) (hle : n ≤ 1000)
    (h : wpList P ops Q rest (a.put d (.slice (some ⟨W.heap.size, 0, none⟩) 2 2)) (W.alloc (.cells (cx ++ cy) e))) :
    wpList P ops Q ({ dst := d, op := .buildSlice t 2 #[(0, x), (1, y)], type := tp, pos := ps, after := af, guard := none } :: rest) a W := by
  subst hs
  refine wpList_buildSlice rfl t e 2 #[(0, x), (1, y)] rfl (cx ++ cy) i z ht hi hz (by omega) (by omega) ?_ h
  have e : ((#[(0, x), (1, y)] : Array (Nat × Operand)).map fun (i, x) => (i, a.eval x)).toList = [(0, .agg cx), (1, .agg cy)] := by
    simp [hx, hy]
  rw [e]
  exact fill_two _ _ _ _ h1 h2 (by simp)
end

/-- A block of two commands reads as a ledger. -/
theorem LedAt.pair {w : World} {hi : Nat} {pa pb : Value} (g : Nat) (a b : Cmd) (h : Blk w g 81 ((a.cells pa).toArray ++ (b.cells pb).toArray)) (ha : IntsAt w 0 hi pa a.parts) (hb : IntsAt w 0 hi pb b.parts) (hhi : hi ≤ w.heap.size) :
    LedAt w 0 w.heap.size (.slice (some ⟨g, 0, none⟩) 2 2) [a, b] := by
  refine ⟨some ⟨g, 0, none⟩, 2, [a.cells pa, b.cells pb], rfl, by simp, by simp [maxLen], by simp, ⟨by simp [Cmd.cells_length], fun _ => ⟨_, rfl, Nat.zero_le _, h.lt, fun j u hu => ?_⟩⟩, rfl, fun i r c' h1 h2 => ?_⟩
  · rw [Addr.add_mid]
    have h' : Blk w g 81 (a.cells pa ++ b.cells pb).toArray := by rw [← List.append_toArray]; exact h
    have hj : (a.cells pa ++ b.cells pb)[j]? = some u := by
      have e : ([a.cells pa, b.cells pb] : List (List Value)).flatten = a.cells pa ++ b.cells pb := by
        rw [List.flatten_cons, List.flatten_cons, List.flatten_nil, List.append_nil]
      rw [e] at hu
      exact hu
    exact h'.range j u hj
  · have hi : i = 0 ∨ i = 1 := by
      have := (List.getElem?_eq_some_iff.1 h1).1
      simp at this
      omega
    rcases hi with rfl | rfl
    · simp at h1 h2
      subst h1 h2
      exact ⟨_, rfl, ha.wider (Nat.zero_le _) hhi⟩
    · simp at h1 h2
      subst h1 h2
      exact ⟨_, rfl, hb.wider (Nat.zero_le _) hhi⟩

end Go.Proofs.YtnlncfjibbdimaaDoor

namespace Go.Proofs.YtnlncfjibbdimaaDoor
open Go.RowKit
set_option linter.unusedSimpArgs false
set_option linter.unusedVariables false

/-- What holds through the law: the two commands' own blocks. -/
def LSt (w : World) (a b : Cmd) (pa pb : Value) (W : World) : Prop := Below w.heap.size w W ∧ Blk W w.heap.size 81 (a.cells pa).toArray ∧ Blk W (w.heap.size + 1) 81 (b.cells pb).toArray
theorem LSt.below {w W W' : World} {a b : Cmd} {pa pb : Value} (h : LSt w a b pa pb W) (f : Below W.heap.size W W') : LSt w a b pa pb W' :=
  ⟨h.1.trans (f.mono h.1.size), h.2.1.below f h.2.1.lt, h.2.2.below f h.2.2.lt⟩

theorem putN_inj {a b : Cmd} (ha : chkB a = true) (hb : chkB b = true) (h : putN a = putN b) : a = b := by
  have h1 := gcmd_put ha
  rw [h, gcmd_put hb] at h1
  injection h1 with h1
  exact h1.symm
theorem led_inj {l m : List Cmd} (hl : ∀ c ∈ l, chkB c = true) (hm : ∀ c ∈ m, chkB c = true) (h1 : l.length ≤ 4096) (h2 : m.length ≤ 4096) (h : sealN (ledN l) = sealN (ledN m)) : l = m := by
  have e := sealN_inj h
  have q := rdLed_enc hl h1
  rw [e, rdLed_enc hm h2] at q
  injection q with q
  exact q.symm

theorem WritePost.good {l : List Cmd} {a1 a12 : Addr} {w w' : World} {e : Ending} (h : WritePost l a1 a12 w e w') (hl : l.length ≤ 4096) (hall : ∀ c ∈ l, chkB c = true) :
    ∃ A c, e = .returned (.tuple #[.slice A (sealN (ledN l)).length c, .nilIface]) ∧ OwnB w' w.heap.size (.slice A (sealN (ledN l)).length c) (sealN (ledN l)) ∧ Below w.heap.size w w' := by
  obtain ⟨hb, ⟨h1, _⟩ | ⟨_, ⟨c, hc, hf⟩, _⟩ | ⟨_, _, v, rfl, ho⟩⟩ := h
  · omega
  · rw [hall c hc] at hf
    cases hf
  · obtain ⟨A, c, rfl⟩ := ho.1
    exact ⟨A, c, rfl, ho, hb⟩
theorem sealN_byte (l : List Cmd) : ∀ x ∈ sealN (ledN l), x < 256 := by
  intro x hx
  rcases List.mem_append.1 hx with h | h
  · exact ledN_byte l x h
  · simp only [be4, List.mem_cons, List.not_mem_nil, or_false] at h
    omega
theorem ReadPost.good {l : List Cmd} {a2 a8 : Addr} {w w' : World} {e : Ending} (h : ReadPost (sealN (ledN l)) a2 a8 w e w') (hl : l.length ≤ 4096) (hall : ∀ c ∈ l, chkB c = true) :
    ∃ v, e = .returned (.tuple #[v, .nilIface]) ∧ OwnLed w' w.heap.size w'.heap.size v l ∧ Below w.heap.size w w' := by
  obtain ⟨hb, ⟨h1, _⟩ | ⟨_, h2, _⟩ | ⟨xs, hx, h3⟩⟩ := h
  · rw [sealN_length] at h1
    omega
  · exfalso
    apply h2
    have e : (sealN (ledN l)).take ((sealN (ledN l)).length - 4) = ledN l := by
      rw [sealN_length, Nat.add_sub_cancel, sealN, List.take_left]
    rw [e]
  · have hx' := sealN_inj hx
    subst hx'
    rcases h3 with ⟨hn, _⟩ | ⟨m, v, hm, rfl, ho⟩
    · rw [rdLed_enc hall hl] at hn
      cases hn
    · rw [rdLed_enc hall hl] at hm
      injection hm with hm
      subst hm
      exact ⟨v, rfl, ho, hb⟩
theorem ownR {w : World} {lo hi n m c : Nat} {A : Option Addr} {xs : List Value} (h : OwnRow w lo hi 5 1 (.slice A n c) m xs) : A = none → c = 0 := fun hA => by
  subst hA
  rcases h.1.2 with ⟨h1, _⟩ | ⟨_, _, _, h1, _⟩
  · injection h1
  · injection h1 with h1
    cases h1
theorem OwnB.cap {w : World} {lo n c : Nat} {A : Option Addr} {bs : List Nat} (h : OwnB w lo (.slice A n c) bs) : bs.length ≤ c ∧ c ≤ 9223372036854775807 := by
  rcases h.2.2.2 with ⟨h1, h2⟩ | ⟨_, _, _, h1, _, _, h2, h3, _⟩
  · injection h1 with _ _ h1
    omega
  · injection h1 with _ _ h1
    subst h1
    simp only [maxLen] at h3
    exact ⟨h2, h3⟩

set_option maxRecDepth 100000 in
set_option maxHeartbeats 6400000 in
theorem lengths_any (a b : Cmd) (hza : a.Sized) (hzb : b.Sized) (w : World) (lo1 hi1 lo2 hi2 : Nat) (pa pb : Value) (hpa : IntsAt w lo1 hi1 pa a.parts) (hpb : IntsAt w lo2 hi2 pb b.parts) (hh1 : hi1 ≤ w.heap.size) (hh2 : hi2 ≤ w.heap.size)
    (a1 a2 a8 a12 : Addr) (h1 : w.cell? ⟨1, 0, none⟩ = some (errv a1)) (h2 : w.cell? ⟨2, 0, none⟩ = some (errv a2)) (h8 : w.cell? ⟨8, 0, none⟩ = some (errv a8)) (h12 : w.cell? ⟨12, 0, none⟩ = some (errv a12)) :
    Calls Tryd.prog 17 #[.agg (a.cells pa).toArray, .agg (b.cells pb).toArray] w fun e w' => e = .returned (.bool true) ∧ Below w.heap.size w w' := by
  have h01 := World.block_lt_of_cell? w _ h1
  have h02 := World.block_lt_of_cell? w _ h2
  have h08 := World.block_lt_of_cell? w _ h8
  have h0c := World.block_lt_of_cell? w _ h12
  have HG := Lib.hid (show ∀ W, Below w.heap.size w W → W.cell? ⟨1, 0, none⟩ = some (errv a1) ∧ W.cell? ⟨2, 0, none⟩ = some (errv a2) ∧ W.cell? ⟨8, 0, none⟩ = some (errv a8) ∧ W.cell? ⟨12, 0, none⟩ = some (errv a12) from
    fun W f => ⟨(f.cell h01).trans h1, (f.cell h02).trans h2, (f.cell h08).trans h8, (f.cell h0c).trans h12⟩)
  have HP := Lib.hid (show ∀ W, Below w.heap.size w W → IntsAt W 0 w.heap.size pa a.parts ∧ IntsAt W 0 w.heap.size pb b.parts from
    fun W f => ⟨(hpa.fr (Fr.of_below f (fun _ => False)) hh1 (fun _ _ _ h => h)).wider (Nat.zero_le _) hh1, (hpb.fr (Fr.of_below f (fun _ => False)) hh2 (fun _ _ _ h => h)).wider (Nat.zero_le _) hh2⟩)
  have HZ := Lib.hid (And.intro hza hzb)
  have hone1 := intsAt_oneW hpa
  have hone2 := intsAt_oneW hpb
  clear hpa hpb hh1 hh2 h1 h2 h8 h12 h01 h02 h08 h0c hza hzb
  go_enter Tryd.func17, Tryd.ntmps17
  go_upto_region 3 with (first | (go_at_call 35; refine (alive10_any _).mono ?_; rintro e w1 ⟨rfl, b1⟩) | fail)
  have hS1 : LSt w a b pa pb w1 := LSt.below (W := (w.alloc (.cells (a.cells pa).toArray 81)).alloc (.cells (b.cells pb).toArray 81))
    ⟨((Below.refl w.heap.size w).alloc (Nat.le_refl _) _).alloc (by simp) _, (Blk.new w 81 _).alloc _, Blk.new1 w _ 81 _⟩ b1
  obtain ⟨x, hx⟩ : ∃ x, x = w.heap.size := ⟨_, rfl⟩
  have S1 := Lib.hid hS1
  have HX := Lib.hid hx
  rw [← hx]
  clear hS1 b1 hx
  have hra1 := S1.out.2.1.range
  have hrb1 := S1.out.2.2.range
  rw [← HX.out] at hra1 hrb1
  have k44 := put_any8 a HZ.out.1 w1 0 w.heap.size pa (HP.out w1 S1.out.1).1 S1.out.1.size a1 (HG.out w1 S1.out.1).1
  have HKA := Lib.hid k44
  clear k44
  cases hca : chkB a with
  | false =>
    have HCA := Lib.hid hca
    clear hca
    cases hcb : chkB b with
    | false =>
      have HCB := Lib.hid hcb
      clear hcb
      go_upto_region 4 with (first | ((with_reducible refine law_load 81 (.tmp 2) x 0 (a.cells pa) ?_ hra1 Tryd.underlying81 ?_ ?_ ?_); rfl; rfl; exact cmd_info) | (go_at_call 44; refine HKA.out.mono ?_; rintro e w2 ⟨hd, _⟩; obtain ⟨rfl, b2⟩ := hd HCA.out; have S2 := Lib.hid (S1.out.below b2); clear hd b2) | fail)
      have hra2 := S2.out.2.1.range
      have hrb2 := S2.out.2.2.range
      rw [← HX.out] at hra2 hrb2
      have k44 := put_any8 b HZ.out.2 w2 0 w.heap.size pb (HP.out w2 S2.out.1).2 S2.out.1.size a1 (HG.out w2 S2.out.1).1
      have HKB := Lib.hid k44
      clear k44 hra1 hrb1
      go_upto_region 5 with (first | ((with_reducible refine law_load 81 (.tmp 3) (x + 1) 0 (b.cells pb) ?_ hrb2 Tryd.underlying81 ?_ ?_ ?_); rfl; rfl; exact cmd_info) | (go_at_call 44; refine HKB.out.mono ?_; rintro e w3 ⟨hd, _⟩; obtain ⟨rfl, b3⟩ := hd HCB.out; have S3 := Lib.hid (S2.out.below b3); clear hd b3) | fail)
      have hra3 := S3.out.2.1.range
      have hrb3 := S3.out.2.2.range
      rw [← HX.out] at hra3 hrb3
      have k46 := inForm_any a HZ.out.1 w3 0 w.heap.size pa (HP.out w3 S3.out.1).1 S3.out.1.size
      rw [in_chk, HCA.out] at k46
      have HKI := Lib.hid k46
      clear k46 hra2 hrb2
      go_wp2_with (first | ((with_reducible refine law_load 81 (.tmp 2) x 0 (a.cells pa) ?_ hra3 Tryd.underlying81 ?_ ?_ ?_); rfl; rfl; exact cmd_info) | (go_at_call 46; (with_reducible refine HKI.out.mono ?_); rintro e w4 ⟨rfl, b4⟩; have S4 := Lib.hid (S3.out.below b4); clear b4) | fail)
      go_ret
      exact ⟨rfl, S4.out.1⟩
    | true =>
      have HCB := Lib.hid hcb
      clear hcb
      go_upto_region 4 with (first | ((with_reducible refine law_load 81 (.tmp 2) x 0 (a.cells pa) ?_ hra1 Tryd.underlying81 ?_ ?_ ?_); rfl; rfl; exact cmd_info) | (go_at_call 44; refine HKA.out.mono ?_; rintro e w2 ⟨hd, _⟩; obtain ⟨rfl, b2⟩ := hd HCA.out; have S2 := Lib.hid (S1.out.below b2); clear hd b2) | fail)
      have hra2 := S2.out.2.1.range
      have hrb2 := S2.out.2.2.range
      rw [← HX.out] at hra2 hrb2
      have k44 := put_any8 b HZ.out.2 w2 0 w.heap.size pb (HP.out w2 S2.out.1).2 S2.out.1.size a1 (HG.out w2 S2.out.1).1
      have HKB := Lib.hid k44
      clear k44 hra1 hrb1
      go_upto_region 5 with (first | ((with_reducible refine law_load 81 (.tmp 3) (x + 1) 0 (b.cells pb) ?_ hrb2 Tryd.underlying81 ?_ ?_ ?_); rfl; rfl; exact cmd_info) | (go_at_call 44; refine HKB.out.mono ?_; rintro e w3 ⟨_, hd⟩; obtain ⟨A3, c3, rfl, o3, b3⟩ := hd HCB.out; have S3 := Lib.hid (S2.out.below b3); have O3 := Lib.hid (And.intro o3 b3); clear hd o3 b3) | fail)
      have hra3 := S3.out.2.1.range
      have hrb3 := S3.out.2.2.range
      rw [← HX.out] at hra3 hrb3
      have k46 := inForm_any a HZ.out.1 w3 0 w.heap.size pa (HP.out w3 S3.out.1).1 S3.out.1.size
      rw [in_chk, HCA.out] at k46
      have HKI := Lib.hid k46
      clear k46 hra2 hrb2
      go_wp2_with (first | ((with_reducible refine law_load 81 (.tmp 2) x 0 (a.cells pa) ?_ hra3 Tryd.underlying81 ?_ ?_ ?_); rfl; rfl; exact cmd_info) | (go_at_call 46; (with_reducible refine HKI.out.mono ?_); rintro e w4 ⟨rfl, b4⟩; have S4 := Lib.hid (S3.out.below b4); clear b4) | fail)
      go_ret
      exact ⟨rfl, S4.out.1⟩
  | true =>
    have HCA := Lib.hid hca
    clear hca
    cases hcb : chkB b with
    | false =>
      have HCB := Lib.hid hcb
      clear hcb
      go_upto_region 4 with (first | ((with_reducible refine law_load 81 (.tmp 2) x 0 (a.cells pa) ?_ hra1 Tryd.underlying81 ?_ ?_ ?_); rfl; rfl; exact cmd_info) | (go_at_call 44; refine HKA.out.mono ?_; rintro e w2 ⟨_, hd⟩; obtain ⟨A2, c2, rfl, o2, b2⟩ := hd HCA.out; have S2 := Lib.hid (S1.out.below b2); have O2 := Lib.hid (And.intro o2 b2); clear hd o2 b2) | fail)
      have hra2 := S2.out.2.1.range
      have hrb2 := S2.out.2.2.range
      rw [← HX.out] at hra2 hrb2
      have k44 := put_any8 b HZ.out.2 w2 0 w.heap.size pb (HP.out w2 S2.out.1).2 S2.out.1.size a1 (HG.out w2 S2.out.1).1
      have HKB := Lib.hid k44
      clear k44 hra1 hrb1
      go_upto_region 5 with (first | ((with_reducible refine law_load 81 (.tmp 3) (x + 1) 0 (b.cells pb) ?_ hrb2 Tryd.underlying81 ?_ ?_ ?_); rfl; rfl; exact cmd_info) | (go_at_call 44; refine HKB.out.mono ?_; rintro e w3 ⟨hd, _⟩; obtain ⟨rfl, b3⟩ := hd HCB.out; have S3 := Lib.hid (S2.out.below b3); clear hd b3) | fail)
      have hra3 := S3.out.2.1.range
      have hrb3 := S3.out.2.2.range
      rw [← HX.out] at hra3 hrb3
      have k46 := inForm_any a HZ.out.1 w3 0 w.heap.size pa (HP.out w3 S3.out.1).1 S3.out.1.size
      rw [in_chk, HCA.out] at k46
      have HKI := Lib.hid k46
      clear k46 hra2 hrb2
      go_wp2_with (first | ((with_reducible refine law_load 81 (.tmp 2) x 0 (a.cells pa) ?_ hra3 Tryd.underlying81 ?_ ?_ ?_); rfl; rfl; exact cmd_info) | (go_at_call 46; (with_reducible refine HKI.out.mono ?_); rintro e w4 ⟨rfl, b4⟩; have S4 := Lib.hid (S3.out.below b4); have B4 := Lib.hid b4; clear b4; have k46 := inForm_any b HZ.out.2 w4 0 w.heap.size pb (HP.out w4 S4.out.1).2 S4.out.1.size; rw [in_chk, HCB.out] at k46; have HKJ := Lib.hid k46; have hrb4 := S4.out.2.2.range; rw [← HX.out] at hrb4; obtain ⟨CS, hCS⟩ : ∃ cs, cs = b.cells pb := ⟨_, rfl⟩; rw [← hCS] at hrb4; have hc18 : (Tryd.prog.info? 81).map (·.size) = some CS.length := (by rw [hCS]; exact cmd_info); have hld := run_loadVar_mid (P := Tryd.prog) w4 (x + 1) 0 81 CS _ hrb4 Tryd.underlying81 rfl hc18; rw [← hCS] at HKJ; have HCS := Lib.hid hCS; clear k46 hCS; simp [go_sem] at hld) | (go_at_call 46; refine HKJ.out.mono ?_; rintro e w5 ⟨rfl, b5⟩; have S5 := Lib.hid (S4.out.below b5); have B5 := Lib.hid b5; clear b5) | fail)
      go_ret
      exact ⟨rfl, S5.out.1⟩
    | true =>
      have HCB := Lib.hid hcb
      clear hcb
      go_upto_region 4 with (first | ((with_reducible refine law_load 81 (.tmp 2) x 0 (a.cells pa) ?_ hra1 Tryd.underlying81 ?_ ?_ ?_); rfl; rfl; exact cmd_info) | (go_at_call 44; refine HKA.out.mono ?_; rintro e w2 ⟨_, hd⟩; obtain ⟨A2, c2, rfl, o2, b2⟩ := hd HCA.out; have S2 := Lib.hid (S1.out.below b2); have O2 := Lib.hid (And.intro o2 b2); clear hd o2 b2) | fail)
      have hra2 := S2.out.2.1.range
      have hrb2 := S2.out.2.2.range
      rw [← HX.out] at hra2 hrb2
      have k44 := put_any8 b HZ.out.2 w2 0 w.heap.size pb (HP.out w2 S2.out.1).2 S2.out.1.size a1 (HG.out w2 S2.out.1).1
      have HKB := Lib.hid k44
      clear k44 hra1 hrb1
      go_upto_region 5 with (first | ((with_reducible refine law_load 81 (.tmp 3) (x + 1) 0 (b.cells pb) ?_ hrb2 Tryd.underlying81 ?_ ?_ ?_); rfl; rfl; exact cmd_info) | (go_at_call 44; refine HKB.out.mono ?_; rintro e w3 ⟨_, hd⟩; obtain ⟨A3, c3, rfl, o3, b3⟩ := hd HCB.out; have S3 := Lib.hid (S2.out.below b3); have O3 := Lib.hid (And.intro o3 b3); clear hd o3 b3) | fail)
      have hra3 := S3.out.2.1.range
      have hrb3 := S3.out.2.2.range
      rw [← HX.out] at hra3 hrb3
      have k46 := inForm_any a HZ.out.1 w3 0 w.heap.size pa (HP.out w3 S3.out.1).1 S3.out.1.size
      rw [in_chk, HCA.out] at k46
      have HKI := Lib.hid k46
      clear k46 hra2 hrb2
      go_upto_region 7 with (first | ((with_reducible refine law_load 81 (.tmp 2) x 0 (a.cells pa) ?_ hra3 Tryd.underlying81 ?_ ?_ ?_); rfl; rfl; exact cmd_info) | (go_at_call 46; (with_reducible refine HKI.out.mono ?_); rintro e w4 ⟨rfl, b4⟩; have S4 := Lib.hid (S3.out.below b4); have B4 := Lib.hid b4; clear b4; have k46 := inForm_any b HZ.out.2 w4 0 w.heap.size pb (HP.out w4 S4.out.1).2 S4.out.1.size; rw [in_chk, HCB.out] at k46; have HKJ := Lib.hid k46; have hrb4 := S4.out.2.2.range; rw [← HX.out] at hrb4; obtain ⟨CS, hCS⟩ : ∃ cs, cs = b.cells pb := ⟨_, rfl⟩; rw [← hCS] at hrb4; have hc18 : (Tryd.prog.info? 81).map (·.size) = some CS.length := (by rw [hCS]; exact cmd_info); have hld := run_loadVar_mid (P := Tryd.prog) w4 (x + 1) 0 81 CS _ hrb4 Tryd.underlying81 rfl hc18; rw [← hCS] at HKJ; have HCS := Lib.hid hCS; clear k46 hCS; simp [go_sem] at hld) | (go_at_call 46; refine HKJ.out.mono ?_; rintro e w5 ⟨rfl, b5⟩; have S5 := Lib.hid (S4.out.below b5); have B5 := Lib.hid b5; clear b5) | fail)
      have b25 : Below w2.heap.size w2 w5 := (O3.out.2.trans (B4.out.mono O3.out.2.size)).trans (B5.out.mono (Nat.le_trans O3.out.2.size B4.out.size))
      have b35 : Below w3.heap.size w3 w5 := B4.out.trans (B5.out.mono B4.out.size)
      have hxa := ((Rd.of_own O2.out.1.1 (fun g hg => (O2.out.1.1.lt g hg).2)).fr (Fr.of_below b25 (fun _ => False)) (Nat.le_refl _) (fun _ _ _ h => h)).wider (Nat.zero_le _) b25.size
      have hxb := ((Rd.of_own O3.out.1.1 (fun g hg => (O3.out.1.1.lt g hg).2)).fr (Fr.of_below b35 (fun _ => False)) (Nat.le_refl _) (fun _ _ _ h => h)).wider (Nat.zero_le _) b35.size
      have XY := Lib.hid (And.intro hxa hxb)
      clear b25 b35 hxa hxb
      clear hld hra3 hrb3 hrb4 hc18
      have hra5 := S5.out.2.1.range
      have hrb5 := S5.out.2.2.range
      rw [← HX.out] at hra5 hrb5
      obtain ⟨i1, z1, hi1, hz11, hz12, hz13, hz14⟩ := cmd_info'
      have hall1 : ∀ c ∈ [a, b], chkB c = true := fun c hc => by
        simp only [List.mem_cons, List.not_mem_nil, or_false] at hc
        rcases hc with rfl | rfl
        · exact HCA.out
        · exact HCB.out
      have hall2 : ∀ c ∈ [b, a], chkB c = true := fun c hc => by
        simp only [List.mem_cons, List.not_mem_nil, or_false] at hc
        rcases hc with rfl | rfl
        · exact HCB.out
        · exact HCA.out
      have HALL := Lib.hid (And.intro hall1 hall2)
      have hsz1 : ∀ c ∈ [a, b], c.Sized := fun c hc => by
        simp only [List.mem_cons, List.not_mem_nil, or_false] at hc
        rcases hc with rfl | rfl
        · exact HZ.out.1
        · exact HZ.out.2
      have hsz2 : ∀ c ∈ [b, a], c.Sized := fun c hc => by
        simp only [List.mem_cons, List.not_mem_nil, or_false] at hc
        rcases hc with rfl | rfl
        · exact HZ.out.2
        · exact HZ.out.1
      have HSZ := Lib.hid (And.intro hsz1 hsz2)
      clear hall1 hall2 hsz1 hsz2
      have hb7 : Below w5.heap.size w5 (w5.alloc (.cells (a.cells pa ++ b.cells pb).toArray 81)) := (Below.refl w5.heap.size w5).alloc (Nat.le_refl _) _
      have S7 := Lib.hid (S5.out.below hb7)
      have k70 := wwrite_any (w5.alloc (.cells (a.cells pa ++ b.cells pb).toArray 81)) 0 (w5.alloc (.cells (a.cells pa ++ b.cells pb).toArray 81)).heap.size (.slice (some ⟨w5.heap.size, 0, none⟩) 2 2) [a, b] (LedAt.pair w5.heap.size a b (by rw [List.append_toArray]; exact Blk.new w5 81 _) (HP.out _ S7.out.1).1 (HP.out _ S7.out.1).2 S7.out.1.size) (Nat.le_refl _) HSZ.out.1 a1 a12 (HG.out _ S7.out.1).1 (HG.out _ S7.out.1).2.2.2
      have HK70 := Lib.hid k70
      clear k70 hb7
      go_upto_region 8 with (first | ((with_reducible refine law_load 81 (.tmp 2) x 0 (a.cells pa) ?_ hra5 Tryd.underlying81 ?_ ?_ ?_); rfl; rfl; exact cmd_info) | ((with_reducible refine law_load 81 (.tmp 3) (x + 1) 0 (b.cells pb) ?_ hrb5 Tryd.underlying81 ?_ ?_ ?_); rfl; rfl; exact cmd_info) | ((with_reducible refine law_buildSlice2 46 81 (.tmp 43) (.tmp 44) i1 z1 (a.cells pa).toArray (b.cells pb).toArray 18 ?_ ?_ Tryd.underlying46 hi1 hz11 hz12 ?_ ?_ (by decide) (by decide) ?_); rfl; rfl; rfl; rfl) | (go_at_call 70; (with_reducible refine HK70.out.mono ?_); rintro e w8 hw8; obtain ⟨A8, c8, rfl, o8, b8⟩ := hw8.good (by simp) HALL.out.1; have S8 := Lib.hid (S7.out.below b8); have B8 := Lib.hid b8; have O8 := Lib.hid o8; clear o8 b8 hw8) | fail)
      have hra8 := S8.out.2.1.range
      have hrb8 := S8.out.2.2.range
      rw [← HX.out] at hra8 hrb8
      have hb9 : Below w8.heap.size w8 (w8.alloc (.cells (b.cells pb ++ a.cells pa).toArray 81)) := (Below.refl w8.heap.size w8).alloc (Nat.le_refl _) _
      have S9 := Lib.hid (S8.out.below hb9)
      have k70 := wwrite_any (w8.alloc (.cells (b.cells pb ++ a.cells pa).toArray 81)) 0 (w8.alloc (.cells (b.cells pb ++ a.cells pa).toArray 81)).heap.size (.slice (some ⟨w8.heap.size, 0, none⟩) 2 2) [b, a] (LedAt.pair w8.heap.size b a (by rw [List.append_toArray]; exact Blk.new w8 81 _) (HP.out _ S9.out.1).2 (HP.out _ S9.out.1).1 S9.out.1.size) (Nat.le_refl _) HSZ.out.2 a1 a12 (HG.out _ S9.out.1).1 (HG.out _ S9.out.1).2.2.2
      have HK70 := Lib.hid k70
      have O8w := Lib.hid (O8.out.below hb9 (Nat.le_refl _))
      clear k70 hb9 hra5 hrb5
      go_upto_region 9 with (first | ((with_reducible refine law_load 81 (.tmp 3) (x + 1) 0 (b.cells pb) ?_ hrb8 Tryd.underlying81 ?_ ?_ ?_); rfl; rfl; exact cmd_info) | ((with_reducible refine law_load 81 (.tmp 2) x 0 (a.cells pa) ?_ hra8 Tryd.underlying81 ?_ ?_ ?_); rfl; rfl; exact cmd_info) | ((with_reducible refine law_buildSlice2 46 81 (.tmp 50) (.tmp 51) i1 z1 (b.cells pb).toArray (a.cells pa).toArray 18 ?_ ?_ Tryd.underlying46 hi1 hz11 hz12 ?_ ?_ (by decide) (by decide) ?_); rfl; rfl; rfl; rfl) | (go_at_call 70; (with_reducible refine HK70.out.mono ?_); rintro e w10 hw10; obtain ⟨A10, c10, rfl, o10, b10⟩ := hw10.good (by simp) HALL.out.2; have S10 := Lib.hid (S9.out.below b10); have B10 := Lib.hid b10; have O10 := Lib.hid o10; have O8x := Lib.hid (O8w.out.below b10 (Nat.le_refl _)); clear o10 b10 hw10) | fail)
      have hll : (ledN [a, b]).length ≤ 8232970 := ledN_len HALL.out.1 (by simp)
      have k72 := wread_any w10 w10.heap.size c8 A8 (sealN (ledN [a, b])) ((Rd.of_own O8x.out.2.2 (fun g hg => (O8x.out.2.2.lt g hg).2)).wider (Nat.zero_le _) (Nat.le_refl _)) (Nat.le_refl _) (by rw [sealN_length]; omega) O8x.out.cap (sealN_byte _) a1 a2 a8 (HG.out _ S10.out.1).1 (HG.out _ S10.out.1).2.1 (HG.out _ S10.out.1).2.2.1
      have HK72 := Lib.hid k72
      clear k72 hll hra8 hrb8
      go_upto_region 10 with (first | (go_at_call 72; (with_reducible refine HK72.out.mono ?_); rintro e w11 hw11; obtain ⟨v11, rfl, o11, b11⟩ := hw11.good (by simp) HALL.out.1; have S11 := Lib.hid (S10.out.below b11); have B11 := Lib.hid b11; have O11 := Lib.hid (And.intro o11 (And.intro (O8x.out.below b11 (Nat.le_refl _)) (O10.out.below b11 (Nat.le_refl _)))); clear o11 b11 hw11) | fail)
      obtain ⟨A11, c11, hv11, hc11, _⟩ := O11.out.1.at_.form
      subst hv11
      have hra11 := S11.out.2.1.range
      have hrb11 := S11.out.2.2.range
      rw [← HX.out] at hra11 hrb11
      have k45 := sameCommand_any w11 0 w.heap.size 0 w.heap.size pa pb a b (HP.out w11 S11.out.1).1 (HP.out w11 S11.out.1).2 S11.out.1.size S11.out.1.size
      obtain ⟨r, hr⟩ : ∃ r, r = tf (a = b) := ⟨_, rfl⟩
      rw [← hr] at k45
      have HK45 := Lib.hid k45
      have HR := Lib.hid hr
      clear k45 hr hc11
      go_upto_region 13 with (first | ((with_reducible refine law_load 81 (.tmp 2) x 0 (a.cells pa) ?_ hra11 Tryd.underlying81 ?_ ?_ ?_); rfl; rfl; exact cmd_info) | ((with_reducible refine law_load 81 (.tmp 3) (x + 1) 0 (b.cells pb) ?_ hrb11 Tryd.underlying81 ?_ ?_ ?_); rfl; rfl; exact cmd_info) | (go_at_call 45; (with_reducible refine HK45.out.mono ?_); rintro e w12 ⟨rfl, b12⟩; have S12 := Lib.hid (S11.out.below b12); have B12 := Lib.hid b12; clear b12) | fail)
      have e58 : Below w5.heap.size w5 w8 := ((Below.refl w5.heap.size w5).alloc (Nat.le_refl _) (.cells (a.cells pa ++ b.cells pb).toArray 81)).trans (B8.out.mono (by simp))
      have e810 : Below w8.heap.size w8 w10 := ((Below.refl w8.heap.size w8).alloc (Nat.le_refl _) (.cells (b.cells pb ++ a.cells pa).toArray 81)).trans (B10.out.mono (by simp))
      have e512 : Below w5.heap.size w5 w12 := ((e58.trans (e810.mono e58.size)).trans (B11.out.mono (Nat.le_trans e58.size e810.size))).trans (B12.out.mono (Nat.le_trans (Nat.le_trans e58.size e810.size) B11.out.size))
      obtain ⟨b13, o13, pv0, rfl, hlo0, hhi0, hr0, hp0⟩ := O11.out.1.at_.range (i := 0) (c := a) rfl
      obtain ⟨b13', o13', pv1, hA13, _, _, hr1, hp1⟩ := O11.out.1.at_.range (i := 1) (c := b) rfl
      injection hA13 with hA13
      injection hA13 with e1 e2
      subst e1 e2
      rw [Nat.zero_mul, Nat.add_zero] at hr0
      rw [Nat.one_mul] at hr1
      have V1 : ∀ w', Below w12.heap.size w12 w' → (convert 84 9 (.slice A2 (putN a).length c2)).run Tryd.prog w' = .ok (.string (textOf (putN a))) w' := fun w' f =>
        conv_bytes (putN_byte a) (XY.out.1.fr (Fr.of_below (e512.trans (f.mono e512.size)) (fun _ => False)) (Nat.le_refl _) (fun _ _ _ h => h)) (ownR O2.out.1)
      have V2 : ∀ w', Below w12.heap.size w12 w' → (convert 84 9 (.slice A3 (putN b).length c3)).run Tryd.prog w' = .ok (.string (textOf (putN b))) w' := fun w' f =>
        conv_bytes (putN_byte b) (XY.out.2.fr (Fr.of_below (e512.trans (f.mono e512.size)) (fun _ => False)) (Nat.le_refl _) (fun _ _ _ h => h)) (ownR O3.out.1)
      have V3 : ∀ w', Below w12.heap.size w12 w' → (convert 84 9 (.slice A8 (sealN (ledN [a, b])).length c8)).run Tryd.prog w' = .ok (.string (textOf (sealN (ledN [a, b])))) w' := fun w' f =>
        conv_bytes (sealN_byte _) ((Rd.of_own O11.out.2.1.2.2 (fun g hg => (O11.out.2.1.2.2.lt g hg).2)).fr (Fr.of_below (B12.out.trans (f.mono B12.out.size)) (fun _ => False)) (Nat.le_refl _) (fun _ _ _ h => h)) (ownA8 O11.out.2.1)
      have V4 : ∀ w', Below w12.heap.size w12 w' → (convert 84 9 (.slice A10 (sealN (ledN [b, a])).length c10)).run Tryd.prog w' = .ok (.string (textOf (sealN (ledN [b, a])))) w' := fun w' f =>
        conv_bytes (sealN_byte _) ((Rd.of_own O11.out.2.2.2.2 (fun g hg => (O11.out.2.2.2.2.lt g hg).2)).fr (Fr.of_below (B12.out.trans (f.mono B12.out.size)) (fun _ => False)) (Nat.le_refl _) (fun _ _ _ h => h)) (ownA8 O11.out.2.2)
      have hbb : b13 < w11.heap.size := hhi0
      have R0 : ∀ w', Below w12.heap.size w12 w' → w'.rangeAt b13 o13 (a.cells pv0) := fun w' f => rangeAt_fr hr0 (Fr.of_below (B12.out.trans (f.mono B12.out.size)) (fun _ => False)) hbb (fun h => h)
      have R1 : ∀ w', Below w12.heap.size w12 w' → w'.rangeAt b13 (o13 + 18) (b.cells pv1) := fun w' f => rangeAt_fr hr1 (Fr.of_below (B12.out.trans (f.mono B12.out.size)) (fun _ => False)) hbb (fun h => h)
      have RA : ∀ w', Below w12.heap.size w12 w' → w'.rangeAt x 0 (a.cells pa) := fun w' f => by rw [HX.out]; exact (S12.out.2.1.below f S12.out.2.1.lt).range
      have RB : ∀ w', Below w12.heap.size w12 w' → w'.rangeAt (x + 1) 0 (b.cells pb) := fun w' f => by rw [HX.out]; exact (S12.out.2.2.below f S12.out.2.2.lt).range
      have K1 : ∀ w', Below w12.heap.size w12 w' → Calls Tryd.prog 45 #[.agg (a.cells pv0).toArray, .agg (a.cells pa).toArray] w' (YesNo true w') := fun w' f => by
        have bw := B12.out.trans (f.mono B12.out.size)
        have k := sameCommand_any w' _ _ 0 w.heap.size pv0 pa a a (hp0.fr (Fr.of_below bw (fun _ => False)) (Nat.le_refl _) (fun _ _ _ h => h)) (HP.out w' (S11.out.1.trans (bw.mono S11.out.1.size))).1 bw.size (S11.out.1.trans (bw.mono S11.out.1.size)).size
        rw [tf_true rfl] at k
        exact k
      have K2 : ∀ w', Below w12.heap.size w12 w' → Calls Tryd.prog 45 #[.agg (b.cells pv1).toArray, .agg (b.cells pb).toArray] w' (YesNo true w') := fun w' f => by
        have bw := B12.out.trans (f.mono B12.out.size)
        have k := sameCommand_any w' _ _ 0 w.heap.size pv1 pb b b (hp1.fr (Fr.of_below bw (fun _ => False)) (Nat.le_refl _) (fun _ _ _ h => h)) (HP.out w' (S11.out.1.trans (bw.mono S11.out.1.size))).2 bw.size (S11.out.1.trans (bw.mono S11.out.1.size)).size
        rw [tf_true rfl] at k
        exact k
      have q1 : ((textOf (putN a)).toList == (textOf (putN b)).toList) = r := by
        rw [textOf_eq (putN_byte a) (putN_byte b), HR.out]
        by_cases hab : a = b
        · rw [tf_true hab, decide_eq_true (by rw [hab])]
        · rw [tf_false hab, decide_eq_false (fun h => hab (putN_inj HCA.out HCB.out h))]
      have q2 : ((textOf (sealN (ledN [a, b]))).toList == (textOf (sealN (ledN [b, a]))).toList) = r := by
        rw [textOf_eq (sealN_byte _) (sealN_byte _), HR.out]
        by_cases hab : a = b
        · rw [tf_true hab, decide_eq_true (by rw [hab])]
        · rw [tf_false hab, decide_eq_false (fun h => hab (by have := led_inj HALL.out.1 HALL.out.2 (by simp) (by simp) h; injection this))]
      have HV := Lib.hid (And.intro V1 (And.intro V2 (And.intro V3 (And.intro V4 (And.intro R0 (And.intro R1 (And.intro RA (And.intro RB (And.intro K1 K2)))))))))
      clear V1 V2 V3 V4 R0 R1 RA RB K1 K2 hr0 hr1 hp0 hp1 hbb hlo0 hhi0 e58 e810 e512 hra11 hrb11
      have hSe : Below w12.heap.size w12 w12.drew := (Below.refl w12.heap.size w12).drew
      refine wp_region_held_drew (S := fun w' => Below w12.heap.size w12 w') (by kernel_rfl) hSe (fun _ => ?_)
      refine wpAnyH_take (i := 0) (v := .slice A2 (putN a).length c2) rfl (by kernel_rfl) (by kernel_rfl) (by kernel_rfl) (fun _ _ _ h => h) (Or.inl ⟨by kernel_rfl, fun w' hSw => ?_⟩) hSe ?_
      · go_simp
      simp only [List.getElem_toArray, List.getElem_cons_succ, List.getElem_cons_zero, Act.put, List.setIfInBounds_toArray, List.set_cons_zero, List.set_cons_succ]
      refine wpAnyH_take (i := 1) (v := .string (textOf (putN a))) rfl (by kernel_rfl) (by kernel_rfl) (by kernel_rfl) (fun _ _ _ h => h) (Or.inl ⟨by kernel_rfl, fun w' hSw => ?_⟩) hSe ?_
      · (have hcx := HV.out.1 w' hSw; go_simp)
      simp only [List.getElem_toArray, List.getElem_cons_succ, List.getElem_cons_zero, Act.put, List.setIfInBounds_toArray, List.set_cons_zero, List.set_cons_succ]
      refine wpAnyH_take (i := 2) (v := .slice A3 (putN b).length c3) rfl (by kernel_rfl) (by kernel_rfl) (by kernel_rfl) (fun _ _ _ h => h) (Or.inl ⟨by kernel_rfl, fun w' hSw => ?_⟩) hSe ?_
      · go_simp
      simp only [List.getElem_toArray, List.getElem_cons_succ, List.getElem_cons_zero, Act.put, List.setIfInBounds_toArray, List.set_cons_zero, List.set_cons_succ]
      refine wpAnyH_take (i := 3) (v := .string (textOf (putN b))) rfl (by kernel_rfl) (by kernel_rfl) (by kernel_rfl) (fun _ _ _ h => h) (Or.inl ⟨by kernel_rfl, fun w' hSw => ?_⟩) hSe ?_
      · (have hcx := HV.out.2.1 w' hSw; go_simp)
      simp only [List.getElem_toArray, List.getElem_cons_succ, List.getElem_cons_zero, Act.put, List.setIfInBounds_toArray, List.set_cons_zero, List.set_cons_succ]
      refine wpAnyH_take (i := 4) (v := .bool r) rfl (by kernel_rfl) (by kernel_rfl) (by kernel_rfl) (fun _ _ _ h => h) (Or.inl ⟨by kernel_rfl, fun w' hSw => ?_⟩) hSe ?_
      · go_simp
      simp only [List.getElem_toArray, List.getElem_cons_succ, List.getElem_cons_zero, Act.put, List.setIfInBounds_toArray, List.set_cons_zero, List.set_cons_succ]
      refine wpAnyH_take (i := 5) (v := .bool r) rfl (by kernel_rfl) (by kernel_rfl) (by kernel_rfl) (fun _ _ _ h => h) (Or.inl ⟨by kernel_rfl, fun w' hSw => ?_⟩) hSe ?_
      · go_simp
      simp only [List.getElem_toArray, List.getElem_cons_succ, List.getElem_cons_zero, Act.put, List.setIfInBounds_toArray, List.set_cons_zero, List.set_cons_succ]
      refine wpAnyH_take (i := 6) (v := .bool true) rfl (by kernel_rfl) (by kernel_rfl) (by kernel_rfl) (fun _ _ _ h => h) (Or.inl ⟨by kernel_rfl, fun w' hSw => ?_⟩) hSe ?_
      · go_simp
      simp only [List.getElem_toArray, List.getElem_cons_succ, List.getElem_cons_zero, Act.put, List.setIfInBounds_toArray, List.set_cons_zero, List.set_cons_succ]
      refine wpAnyH_take (i := 7) (v := .bool true) rfl (by kernel_rfl) (by kernel_rfl) (by kernel_rfl) (fun _ _ _ h => h) (Or.inl ⟨by kernel_rfl, fun w' hSw => ?_⟩) hSe ?_
      · go_simp
      simp only [List.getElem_toArray, List.getElem_cons_succ, List.getElem_cons_zero, Act.put, List.setIfInBounds_toArray, List.set_cons_zero, List.set_cons_succ]
      refine wpAnyH_take (i := 8) (v := .slice A8 (sealN (ledN [a, b])).length c8) rfl (by kernel_rfl) (by kernel_rfl) (by kernel_rfl) (fun _ _ _ h => h) (Or.inl ⟨by kernel_rfl, fun w' hSw => ?_⟩) hSe ?_
      · go_simp
      simp only [List.getElem_toArray, List.getElem_cons_succ, List.getElem_cons_zero, Act.put, List.setIfInBounds_toArray, List.set_cons_zero, List.set_cons_succ]
      refine wpAnyH_take (i := 9) (v := .string (textOf (sealN (ledN [a, b])))) rfl (by kernel_rfl) (by kernel_rfl) (by kernel_rfl) (fun _ _ _ h => h) (Or.inl ⟨by kernel_rfl, fun w' hSw => ?_⟩) hSe ?_
      · (have hcx := HV.out.2.2.1 w' hSw; go_simp)
      simp only [List.getElem_toArray, List.getElem_cons_succ, List.getElem_cons_zero, Act.put, List.setIfInBounds_toArray, List.set_cons_zero, List.set_cons_succ]
      refine wpAnyH_take (i := 10) (v := .slice A10 (sealN (ledN [b, a])).length c10) rfl (by kernel_rfl) (by kernel_rfl) (by kernel_rfl) (fun _ _ _ h => h) (Or.inl ⟨by kernel_rfl, fun w' hSw => ?_⟩) hSe ?_
      · go_simp
      simp only [List.getElem_toArray, List.getElem_cons_succ, List.getElem_cons_zero, Act.put, List.setIfInBounds_toArray, List.set_cons_zero, List.set_cons_succ]
      refine wpAnyH_take (i := 11) (v := .string (textOf (sealN (ledN [b, a])))) rfl (by kernel_rfl) (by kernel_rfl) (by kernel_rfl) (fun _ _ _ h => h) (Or.inl ⟨by kernel_rfl, fun w' hSw => ?_⟩) hSe ?_
      · (have hcx := HV.out.2.2.2.1 w' hSw; go_simp)
      simp only [List.getElem_toArray, List.getElem_cons_succ, List.getElem_cons_zero, Act.put, List.setIfInBounds_toArray, List.set_cons_zero, List.set_cons_succ]
      refine wpAnyH_take (i := 12) (v := .bool r) rfl (by kernel_rfl) (by kernel_rfl) (by kernel_rfl) (fun _ _ _ h => h) (Or.inl ⟨by kernel_rfl, fun w' hSw => ?_⟩) hSe ?_
      · go_simp
      simp only [List.getElem_toArray, List.getElem_cons_succ, List.getElem_cons_zero, Act.put, List.setIfInBounds_toArray, List.set_cons_zero, List.set_cons_succ]
      refine wpAnyH_take (i := 13) (v := .bool r) rfl (by kernel_rfl) (by kernel_rfl) (by kernel_rfl) (fun _ _ _ h => h) (Or.inl ⟨by kernel_rfl, fun w' hSw => ?_⟩) hSe ?_
      · go_simp
      simp only [List.getElem_toArray, List.getElem_cons_succ, List.getElem_cons_zero, Act.put, List.setIfInBounds_toArray, List.set_cons_zero, List.set_cons_succ]
      refine wpAnyH_take (i := 14) (v := .bool true) rfl (by kernel_rfl) (by kernel_rfl) (by kernel_rfl) (fun _ _ _ h => h) (Or.inl ⟨by kernel_rfl, fun w' hSw => ?_⟩) hSe ?_
      · go_simp
      simp only [List.getElem_toArray, List.getElem_cons_succ, List.getElem_cons_zero, Act.put, List.setIfInBounds_toArray, List.set_cons_zero, List.set_cons_succ]
      refine wpAnyH_take (i := 15) (v := .bool true) rfl (by kernel_rfl) (by kernel_rfl) (by kernel_rfl) (fun _ _ _ h => h) (Or.inl ⟨by kernel_rfl, fun w' hSw => ?_⟩) hSe ?_
      · go_simp
      simp only [List.getElem_toArray, List.getElem_cons_succ, List.getElem_cons_zero, Act.put, List.setIfInBounds_toArray, List.set_cons_zero, List.set_cons_succ]
      refine wpAnyH_take (i := 16) (v := .bool true) rfl (by kernel_rfl) (by kernel_rfl) (by kernel_rfl) (fun _ _ _ h => h) (Or.inl ⟨by kernel_rfl, fun w' hSw => ?_⟩) hSe ?_
      · go_simp
      simp only [List.getElem_toArray, List.getElem_cons_succ, List.getElem_cons_zero, Act.put, List.setIfInBounds_toArray, List.set_cons_zero, List.set_cons_succ]
      refine wpAnyH_take (i := 17) (v := .slice (some ⟨b13, o13, none⟩) 2 c11) rfl (by kernel_rfl) (by kernel_rfl) (by kernel_rfl) (fun _ _ _ h => h) (Or.inl ⟨by kernel_rfl, fun w' hSw => ?_⟩) hSe ?_
      · go_simp
      simp only [List.getElem_toArray, List.getElem_cons_succ, List.getElem_cons_zero, Act.put, List.setIfInBounds_toArray, List.set_cons_zero, List.set_cons_succ]
      refine wpAnyH_take (i := 18) (v := .pointer (some ⟨b13, o13, none⟩)) rfl (by kernel_rfl) (by kernel_rfl) (by kernel_rfl) (fun _ _ _ h => h) (Or.inl ⟨by kernel_rfl, fun w' hSw => ?_⟩) hSe ?_
      · go_simp
      simp only [List.getElem_toArray, List.getElem_cons_succ, List.getElem_cons_zero, Act.put, List.setIfInBounds_toArray, List.set_cons_zero, List.set_cons_succ]
      refine wpAnyH_take (i := 19) (v := .agg (a.cells pv0).toArray) rfl (by kernel_rfl) (by kernel_rfl) (by kernel_rfl) (fun _ _ _ h => h) ?_ hSe ?_
      · refine yieldsIf_load_mid ?_ 81 (.tmp 105) ?_ b13 o13 ?_ (a.cells pv0) _ (fun w' h => HV.out.2.2.2.2.1 w' h) Tryd.underlying81 ?_ cmd_info
        · kernel_rfl
        · rfl
        · kernel_rfl
        · rfl
      simp only [List.getElem_toArray, List.getElem_cons_succ, List.getElem_cons_zero, Act.put, List.setIfInBounds_toArray, List.set_cons_zero, List.set_cons_succ]
      refine wpAnyH_take (i := 20) (v := .agg (a.cells pa).toArray) rfl (by kernel_rfl) (by kernel_rfl) (by kernel_rfl) (fun _ _ _ h => h) ?_ hSe ?_
      · refine yieldsIf_load_mid ?_ 81 (.tmp 2) ?_ x 0 ?_ (a.cells pa) _ (fun w' h => HV.out.2.2.2.2.2.2.1 w' h) Tryd.underlying81 ?_ cmd_info
        · kernel_rfl
        · rfl
        · kernel_rfl
        · rfl
      simp only [List.getElem_toArray, List.getElem_cons_succ, List.getElem_cons_zero, Act.put, List.setIfInBounds_toArray, List.set_cons_zero, List.set_cons_succ]
      refine wpAnyH_ready (rs := [21]) (by kernel_rfl) (by simp) ?_
      refine AllReadyH.cons rfl (fun K hK => ?_) AllReadyH.nil
      go_simp
      refine (HV.out.2.2.2.2.2.2.2.2.1 _ hSe).mono ?_
      rintro e w13 ⟨rfl, b13'⟩
      have hSf := hSe.trans (b13'.mono hSe.size)
      refine Shut.out hK _ _ hSf (fun _ => ?_)
      clear hK K
      refine wpAnyH_take (i := 22) (v := .bool true) rfl (by kernel_rfl) (by kernel_rfl) (by kernel_rfl) (fun _ _ _ h => h) (Or.inl ⟨by kernel_rfl, fun w' hSw => ?_⟩) hSf ?_
      · go_simp
      simp only [List.getElem_toArray, List.getElem_cons_succ, List.getElem_cons_zero, Act.put, List.setIfInBounds_toArray, List.set_cons_zero, List.set_cons_succ]
      refine wpAnyH_take (i := 23) (v := .bool true) rfl (by kernel_rfl) (by kernel_rfl) (by kernel_rfl) (fun _ _ _ h => h) (Or.inl ⟨by kernel_rfl, fun w' hSw => ?_⟩) hSf ?_
      · go_simp
      simp only [List.getElem_toArray, List.getElem_cons_succ, List.getElem_cons_zero, Act.put, List.setIfInBounds_toArray, List.set_cons_zero, List.set_cons_succ]
      refine wpAnyH_take (i := 24) (v := .slice (some ⟨b13, o13, none⟩) 2 c11) rfl (by kernel_rfl) (by kernel_rfl) (by kernel_rfl) (fun _ _ _ h => h) (Or.inl ⟨by kernel_rfl, fun w' hSw => ?_⟩) hSf ?_
      · go_simp
      simp only [List.getElem_toArray, List.getElem_cons_succ, List.getElem_cons_zero, Act.put, List.setIfInBounds_toArray, List.set_cons_zero, List.set_cons_succ]
      refine wpAnyH_take (i := 25) (v := .pointer (some ⟨b13, o13 + 18, none⟩)) rfl (by kernel_rfl) (by kernel_rfl) (by kernel_rfl) (fun _ _ _ h => h) (Or.inl ⟨by kernel_rfl, fun w' hSw => ?_⟩) hSf ?_
      · go_simp
      simp only [List.getElem_toArray, List.getElem_cons_succ, List.getElem_cons_zero, Act.put, List.setIfInBounds_toArray, List.set_cons_zero, List.set_cons_succ]
      refine wpAnyH_take (i := 26) (v := .agg (b.cells pv1).toArray) rfl (by kernel_rfl) (by kernel_rfl) (by kernel_rfl) (fun _ _ _ h => h) ?_ hSf ?_
      · refine yieldsIf_load_mid ?_ 81 (.tmp 112) ?_ b13 (o13 + 18) ?_ (b.cells pv1) _ (fun w' h => HV.out.2.2.2.2.2.1 w' h) Tryd.underlying81 ?_ cmd_info
        · kernel_rfl
        · rfl
        · kernel_rfl
        · rfl
      simp only [List.getElem_toArray, List.getElem_cons_succ, List.getElem_cons_zero, Act.put, List.setIfInBounds_toArray, List.set_cons_zero, List.set_cons_succ]
      refine wpAnyH_take (i := 27) (v := .agg (b.cells pb).toArray) rfl (by kernel_rfl) (by kernel_rfl) (by kernel_rfl) (fun _ _ _ h => h) ?_ hSf ?_
      · refine yieldsIf_load_mid ?_ 81 (.tmp 3) ?_ (x + 1) 0 ?_ (b.cells pb) _ (fun w' h => HV.out.2.2.2.2.2.2.2.1 w' h) Tryd.underlying81 ?_ cmd_info
        · kernel_rfl
        · rfl
        · kernel_rfl
        · rfl
      simp only [List.getElem_toArray, List.getElem_cons_succ, List.getElem_cons_zero, Act.put, List.setIfInBounds_toArray, List.set_cons_zero, List.set_cons_succ]
      refine wpAnyH_ready (rs := [28]) (by kernel_rfl) (by simp) ?_
      refine AllReadyH.cons rfl (fun K hK => ?_) AllReadyH.nil
      go_simp
      refine (HV.out.2.2.2.2.2.2.2.2.2 _ hSf).mono ?_
      rintro e w14 ⟨rfl, b14'⟩
      have hSg := hSf.trans (b14'.mono hSf.size)
      refine Shut.out hK _ _ hSg (fun _ => ?_)
      clear hK K
      refine wpAnyH_take (i := 29) (v := .bool true) rfl (by kernel_rfl) (by kernel_rfl) (by kernel_rfl) (fun _ _ _ h => h) (Or.inl ⟨by kernel_rfl, fun w' hSw => ?_⟩) hSg ?_
      · go_simp
      simp only [List.getElem_toArray, List.getElem_cons_succ, List.getElem_cons_zero, Act.put, List.setIfInBounds_toArray, List.set_cons_zero, List.set_cons_succ]
      refine wpAnyH_take (i := 30) (v := .bool true) rfl (by kernel_rfl) (by kernel_rfl) (by kernel_rfl) (fun _ _ _ h => h) (Or.inl ⟨by kernel_rfl, fun w' hSw => ?_⟩) hSg ?_
      · go_simp
      simp only [List.getElem_toArray, List.getElem_cons_succ, List.getElem_cons_zero, Act.put, List.setIfInBounds_toArray, List.set_cons_zero, List.set_cons_succ]
      refine wpAnyH_done (by kernel_rfl) ?_ _
      have HE := Lib.hid (S12.out.1.trans (hSg.mono S12.out.1.size))
      clear hSe hSf hSg
      go_wp2_with (fail)
      go_ret
      exact ⟨rfl, HE.out⟩

end Go.Proofs.YtnlncfjibbdimaaDoor

namespace Go.Proofs.YtnlncfjibbdimaaDoor
open Go.ChangeShapes Go.WideShapes Go.ChangeAt Go.RowKit Go.Deep
set_option linter.unusedSimpArgs false
set_option linter.unusedVariables false

section
variable {H : Type} {enc : TypeId × Value → H} {w : World} {base : Nat} {spare : Nat → Bool} {held : Bool} {fuel : Nat} {cs : List Value} {x : DataW H × List MemPlace}
theorem trod_piece_sz (h : DataW.trod enc Tryd.prog w base spare held fuel 79 cs = some x) : ∃ a b c z s, cs = [.int .i64 a, .int .i64 b, .int .i64 c, .int .i64 z, .string s] ∧ s.size ≤ maxLen := by
  have hlen := trod_len Tryd.underlying79 h
  obtain ⟨_, _, h0⟩ := trod_field Tryd.underlying79 h 0 _ rfl
  obtain ⟨_, _, h1⟩ := trod_field Tryd.underlying79 h 1 _ rfl
  obtain ⟨_, _, h2⟩ := trod_field Tryd.underlying79 h 2 _ rfl
  rw [cellsOf79] at hlen
  obtain ⟨a, b, c, e0, _⟩ := trod_id h0
  obtain ⟨z, e1, _⟩ := trod_i64 h1
  obtain ⟨s, e2, zs⟩ := trod_str h2
  clear h h0 h1 h2
  obtain ⟨c0, c1, c2, c3, c4, rfl⟩ := list5 hlen
  simp [cellsOf3, cellsOf74, cells9] at e0 e1 e2
  exact ⟨a, b, c, z, s, by rw [e0.1, e0.2.1, e0.2.2, e1, e2], zs⟩

theorem open_cmd_sz (h : DataW.trod enc Tryd.prog w base spare held fuel 81 cs = some x) (hx : Light 81 x.1) : ∃ c, CmdAt w 0 w.heap.size cs c ∧ c.Sized := by
  have hlen := trod_len Tryd.underlying81 h
  obtain ⟨_, _, h0⟩ := trod_field Tryd.underlying81 h 0 _ rfl
  obtain ⟨_, _, h1⟩ := trod_field Tryd.underlying81 h 1 _ rfl
  obtain ⟨_, _, h2⟩ := trod_field Tryd.underlying81 h 2 _ rfl
  obtain ⟨_, _, h3⟩ := trod_field Tryd.underlying81 h 3 _ rfl
  obtain ⟨_, _, h4⟩ := trod_field Tryd.underlying81 h 4 _ rfl
  obtain ⟨_, _, h5⟩ := trod_field Tryd.underlying81 h 5 _ rfl
  obtain ⟨_, _, h6⟩ := trod_field Tryd.underlying81 h 6 _ rfl
  obtain ⟨_, _, h7, l7⟩ := light_field Tryd.underlying81 h hx 7 _ rfl
  obtain ⟨_, _, h8⟩ := trod_field Tryd.underlying81 h 8 _ rfl
  obtain ⟨_, _, h9⟩ := trod_field Tryd.underlying81 h 9 _ rfl
  rw [cellsOf81] at hlen
  obtain ⟨kind, e0, _⟩ := trod_i64 h0
  obtain ⟨i1, i2, i3, e1, _⟩ := trod_id h1
  obtain ⟨bu, e2, zb⟩ := trod_str h2
  obtain ⟨ke, e3, zk⟩ := trod_str h3
  obtain ⟨u1, u2, u3, e4, _⟩ := trod_id h4
  obtain ⟨p1, p2, p3, pz, pe, e5, ze⟩ := trod_piece_sz h5
  obtain ⟨part, e6, _⟩ := trod_i64 h6
  obtain ⟨pv, parts, e7, hi, _⟩ := open_intsAt h7 l7
  obtain ⟨time, e8, _⟩ := trod_i64 h8
  obtain ⟨days, e9, _⟩ := trod_i64 h9
  clear h h0 h1 h2 h3 h4 h5 h6 h7 h8 h9 l7 hx
  obtain ⟨c0, c1, c2, c3, c4, c5, c6, c7, c8, c9, c10, c11, c12, c13, c14, c15, c16, c17, rfl⟩ := list18 hlen
  simp [cellsOf3, cellsOf74, cells9, cellsOf79, cellsOf40] at e0 e1 e2 e3 e4 e5 e6 e7 e8 e9
  refine ⟨⟨kind, i1, i2, i3, bu, ke, u1, u2, u3, p1, p2, p3, pz, pe, part, parts, time, days⟩, ⟨pv, ?_, hi⟩, zb, zk, ze⟩
  simp only [Cmd.cells, e0, e1.1, e1.2.1, e1.2.2, e2, e3, e4.1, e4.2.1, e4.2.2, e5.1, e5.2.1, e5.2.2.1, e5.2.2.2.1, e5.2.2.2.2, e6, e7, e8, e9]

end

end Go.Proofs.YtnlncfjibbdimaaDoor

namespace Go.Proofs.YtnlncfjibbdimaaDoor
open Go.ChangeShapes Go.WideShapes Go.ChangeAt Go.RowKit Go.Deep
set_option linter.unusedSimpArgs false
set_option linter.unusedVariables false

def sentsCommandLengths : List (String × Nat × List UInt8) := [("bollard/api.ErrNumber", 0, [98, 111, 108, 108, 97, 114, 100, 58, 32, 110, 117, 109, 98, 101, 114]), ("bollard/api.ErrBytes", 2, [98, 111, 108, 108, 97, 114, 100, 58, 32, 98, 121, 116, 101, 115]), ("bollard/api.ErrDigest", 8, [98, 111, 108, 108, 97, 114, 100, 58, 32, 100, 105, 103, 101, 115, 116]), ("bollard/api.ErrLarge", 12, [98, 111, 108, 108, 97, 114, 100, 58, 32, 108, 97, 114, 103, 101]), ("bollard/api.ErrState", 1, [98, 111, 108, 108, 97, 114, 100, 58, 32, 115, 116, 97, 116, 101])]
theorem sentsCommandLengths_ok : ∀ x ∈ sentsCommandLengths, SentOk x := by
  intro x hx
  simp only [sentsCommandLengths, List.mem_cons, List.not_mem_nil, or_false] at hx
  rcases hx with rfl | rfl | rfl | rfl | rfl
  · exact ⟨by kernel_rfl, by kernel_rfl⟩
  · exact ⟨by kernel_rfl, by kernel_rfl⟩
  · exact ⟨by kernel_rfl, by kernel_rfl⟩
  · exact ⟨by kernel_rfl, by kernel_rfl⟩
  · exact ⟨by kernel_rfl, by kernel_rfl⟩

set_option maxRecDepth 100000 in
theorem commandLengths_walk : LawWalk 17 Tryd.f17 (sentsCommandLengths.map (·.2.1)) := by
  intro H enc W base args ds p A hA hval hsz hlt hE
  rw [Tryd.params17] at hA hval hsz
  obtain ⟨v0, vs0, d0, ds0, p0, q0, hargs, rfl, rfl, h0, r0⟩ := trodAll_cons hA
  obtain ⟨v1, vs1, d1, ds1, p1, q1, hargs1, rfl, rfl, h1, r1⟩ := trodAll_cons r0
  obtain ⟨rfl, rfl, rfl⟩ := trodAll_nil r1
  obtain rfl : args = #[v0, v1] := by cases args; simp_all
  have hl0 : Light 81 d0 := light_of_each (j := 0) hsz rfl rfl
  have hl1 : Light 81 d1 := light_of_each (j := 1) hsz rfl rfl
  obtain ⟨cs0, rfl, _⟩ := okWide_struct Tryd.underlying81 (hval 0 81 v0 rfl rfl)
  obtain ⟨cs1, rfl, _⟩ := okWide_struct Tryd.underlying81 (hval 1 81 v1 rfl rfl)
  obtain ⟨f0, h0⟩ := h0
  obtain ⟨f1, h1⟩ := h1
  obtain ⟨a, ⟨pa, hca, hpa⟩, hza⟩ := open_cmd_sz h0 hl0
  obtain ⟨b, ⟨pb, hcb, hpb⟩, hzb⟩ := open_cmd_sz h1 hl1
  have e0 : cs0 = (a.cells pa).toArray := by
    have e : (Value.agg cs0).cells.toList = cs0.toList := rfl
    rw [e] at hca
    rw [← Array.toArray_toList (xs := cs0), hca]
  have e1 : cs1 = (b.cells pb).toArray := by
    have e : (Value.agg cs1).cells.toList = cs1.toList := rfl
    rw [e] at hcb
    rw [← Array.toArray_toList (xs := cs1), hcb]
  subst e0 e1
  exact lengths_any a b hza hzb W 0 W.heap.size 0 W.heap.size pa pb hpa hpb (Nat.le_refl _) (Nat.le_refl _) (A 1) (A 2) (A 8) (A 12) (hE.cell 1 (by decide)) (hE.cell 2 (by decide)) (hE.cell 8 (by decide)) (hE.cell 12 (by decide))

end Go.Proofs.YtnlncfjibbdimaaDoor
