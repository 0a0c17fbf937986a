/-
  BallotAgrees: take: a round's accepting.
-/
import Derived.Test.YtnlncfjibbdimaaDoorTakeM
import Derived.Test.YtnlncfjibbdimaaDoorBools
namespace Go.Proofs.YtnlncfjibbdimaaDoor
open Go.RowKit
set_option linter.unusedSimpArgs false
set_option linter.unusedVariables false

def BTakePost (M MG : Nat → Prop) (w : World) (B n half K : Nat) (g : Nat → Nat) (A : Option Addr) (ga : Nat) (es : List Ent) (v : Vt) (r nn : Int) (L : List Cmd) (lv : Value) (e : Ending) (w' : World) : Prop :=
  e = .returned (.bool true) ∧ ∃ M' MG' s' es' seen, Took M MG w B n half K g A ga es v r nn L lv M' MG' s' es' seen seen w'

/-- What the loop keeps: the box x, the block sb of who has accepted. -/
def BTakeInv (M MG : Nat → Prop) (w : World) (B n half K : Nat) (g : Nat → Nat) (A : Option Addr) (ga : Nat) (es : List Ent) (v : Vt) (r nn : Int) (L : List Cmd) (lv tv : Value) (x sb : Nat) (M' MG' : Nat → Prop) (s' : Nat → Acc) (es' : List Ent) (seen : Nat → Bool) (wr : World) : Prop :=
  Took M MG w B n half K g A ga es v r nn L lv M' MG' s' es' seen seen wr ∧ M' sb ∧ ¬ MG' sb ∧ ¬ M' x ∧ Blk wr sb 4 (bls seen n) ∧ Blk wr x 48 #[.int .i64 r, .int .i64 nn, lv, tv]

set_option maxRecDepth 100000 in
set_option maxHeartbeats 800000 in
theorem btake_any (w : World) (M MG : Nat → Prop) (B n half K cA ga lo hi : Nat) (g : Nat → Nat) (A : Option Addr) (es : List Ent) (v : Vt) (r nn : Int) (L : List Cmd) (lv tv : Value) (tk : List Int) (s : Nat → Acc) (Ad : Nat → Addr)
    (h0 : w.cell? ⟨0, 0, none⟩ = some (errv (Ad 0))) (h3 : w.cell? ⟨3, 0, none⟩ = some (errv (Ad 3))) (hlow : ∀ k, M k → 4 ≤ k)
    (hacc : AccsF M w B n g s) (hptr : PtrsF M w A n g) (hag : AgAt M MG w ga es) (hled : Lf M w lv L) (hbal : Ballots n half (fun i => aof (s i)) v) (hfair : Fair n v es) (hp : v.prop (r, nn) = some L) (hun : ∀ i, v.voted (r, nn) i = false)
    (hshort : ∀ i, i < n → (s i).led.length ≤ K) (hL : L.length ≤ K) (hlt : ∀ m, M m → m < w.heap.size) (hsub : ∀ m, MG m → M m) (hgG : ∀ i, i < n → ¬ MG (g i)) (hn0 : 0 < n) (hn7 : n ≤ 7) (hhalf : half ≤ 1000) (hes : es.length ≤ 900)
    (htk : IntsAt w lo hi tv tk) (hhi : hi ≤ w.heap.size) (htM : ∀ m, M m → m < lo ∨ hi ≤ m) :
    Calls Tryd.prog 28 #[.slice A n cA, .pointer (some ⟨ga, 0, none⟩), .agg #[.int .i64 r, .int .i64 nn, lv, tv], .int .i64 (half : Nat)] w (BTakePost M MG w B n half K g A ga es v r nn L lv) := by
  have hT := Took.start (r := r) (nn := nn) (K := K) hacc hptr hag hled hbal hfair hp hun hshort hL hlt hsub hgG
  obtain ⟨lo2, hi2, hLA, _, _⟩ := hled
  obtain ⟨AL, cL, rfl, _⟩ := hLA.form
  obtain ⟨nL, hnL⟩ : ∃ nL, nL = L.length := ⟨_, rfl⟩
  rw [← hnL] at hT ⊢
  clear hLA hnL
  obtain ⟨At, ct, rfl, hl1, hm1, _, hrd⟩ := htk
  obtain ⟨nt, hnt⟩ : ∃ nt, nt = tk.length := ⟨_, rfl⟩
  rw [← hnt] at hl1 hrd ⊢
  have HNT := Lib.hid hnt
  clear hnt
  have hm1' : ct ≤ 9223372036854775807 := by simp only [maxLen] at hm1; omega
  have hx1 : ¬ M w.heap.size := fun h => by have := hlt _ h; omega
  have hmk := make_bools n (by omega)
  go_enter Tryd.func28, Tryd.ntmps28
  go_upto_region 3 with (fail)
  have hbx : Below w.heap.size w (w.alloc (.cells #[.int .i64 r, .int .i64 nn, .slice AL nL cL, .slice At nt ct] 48)) := (Below.refl _ _).alloc (Nat.le_refl _) _
  refine wp_letter (fun W1 => BTakeInv M MG w B n half K g A ga es v r nn L (.slice AL nL cL) (.slice At nt ct) w.heap.size (w.heap.size + 1) (fun k => M k ∨ k = w.heap.size + 1) MG s es (fun _ => false) W1)
    ⟨Took.more hT (hbx.trans (((Below.refl _ _).alloc (Nat.le_refl _) _).mono (by simp))) (by omega) (by simp), .inr rfl, fun h => by have := hlt _ (hsub _ h); omega, fun h => by rcases h with h | h; exact hx1 h; omega, Blk.new1 w _ 4 _, (Blk.new w 48 _).alloc _⟩ ?_
  rintro W1 hI1
  obtain ⟨x, hx⟩ : ∃ x, x = w.heap.size := ⟨_, rfl⟩
  obtain ⟨sb, hsb⟩ : ∃ sb, sb = w.heap.size + 1 := ⟨_, rfl⟩
  rw [← hsb, ← hx] at hI1 ⊢
  have HX := Lib.hid (And.intro hx hsb)
  clear hx hsb hbx hx1 hT
  have cX := hI1.2.2.2.2.2.cell
  have hI1' := Lib.hid (show ∃ M' MG' s' es' seen, BTakeInv M MG w B n half K g A ga es v r nn L (.slice AL nL cL) (.slice At nt ct) x sb M' MG' s' es' seen W1 from ⟨_, _, _, _, _, hI1⟩)
  clear hI1
  go_wp2_with (fail)
  go_loopw [21] (fun i wr => ∃ (k : Nat), k ≤ nt ∧ i = .int .i64 k ∧ ∃ M' MG' s' es' seen, BTakeInv M MG w B n half K g A ga es v r nn L (.slice AL nL cL) (.slice At nt ct) x sb M' MG' s' es' seen wr) (fun i _ => nt - (intOf i).toNat)
  case atStart => exact ⟨0, Nat.zero_le _, rfl, hI1'.out⟩
  case round =>
    obtain ⟨k, hk, rfl, M', MG', s', es', seen, hI⟩ := hrel
    by_cases hlt : k < nt
    · have hk' : k < tk.length := by rw [← HNT.out]; exact hlt
      obtain ⟨z, hz⟩ : ∃ z, tk[k]? = some z := ⟨_, List.getElem?_eq_getElem hk'⟩
      obtain ⟨tb, tq, rfl, ht1, ht2, ht3⟩ := ints_cell hrd hz
      obtain ⟨hT, hsM, hsG, hxM, hS, hX⟩ := hI
      have htc : wr.cell? ⟨tb, tq + k, none⟩ = some (.int .i64 z) := (hT.fr.cell (p := ⟨tb, tq + k, none⟩) (by simp only; omega) (fun h => by
        have hm : M tb := by
          rcases h with ⟨i, hi, h⟩ | h
          · simp only at h; rw [h]; exact hacc.in_ i hi
          · exact hsub _ h
        have := htM tb hm
        omega)).trans ht3
      obtain ⟨j, hj, hwj⟩ := whichN z hn0 (by omega)
      have hj1 : (j : Int) < n := by omega
      have hnn : ¬ (n : Int) = 0 := by omega
      have cX := hX.cell
      obtain ⟨bA, oA, hA, hbA, hMA, hcA⟩ := hT.ptr.at_ hj
      have hPj := hcA j hj
      have hSj := (hS.cell j).trans (bls_get hj)
      have HTK := Lib.hid (And.intro hz (And.intro ht3 HNT))
      clear hz ht3 hcA
      subst hA
      go_upto_region 7 with (fail)
      by_cases hsj : seen j = true
      · rw [hsj] at hSj
        have cSq : ∀ d os, (Go.Sort.grow (redrawn wr d) os).cell? ⟨sb, j, none⟩ = some (.bool true) := fun d os => ((hS.below (below_regrown wr d os) hS.lt).cell j).trans ((bls_get hj).trans (by rw [hsj]))
        refine wp_region_quiet_below (by kernel_rfl) (by kernel_rfl) ?_
        repeat (go_big_quiet_step (fail))
        refine wpQuiet_nil ?_
        intro _ hw'
        obtain ⟨⟨dq, osq⟩, hw''⟩ := hw'
        subst hw''
        go_wp2_with (fail)
        go_roundw
        case rel => exact ⟨k + 1, by omega, by go_num, _, _, _, _, _, hT.below (below_regrown _ _ _), hsM, hsG, hxM, hS.below (below_regrown _ _ _) hS.lt, hX.below (below_regrown _ _ _) hX.lt⟩
        case measure => simp [intOf]; omega
      · rw [Bool.not_eq_true] at hsj
        rw [hsj] at hSj
        obtain ⟨lo1, hi1, hA1, hlo1⟩ := hT.accs.acc j hj
        obtain ⟨lo2, hi2, hl2, hhi2, hMl2⟩ := hT.led
        have hgM := hT.accs.in_ j hj
        have hlow2 : ∀ q, q < 4 → wr.cell? ⟨q, 0, none⟩ = w.cell? ⟨q, 0, none⟩ := fun q hq => hT.fr.cell (p := ⟨q, 0, none⟩) (by have := hlow _ (hacc.in_ j hj); have := (hT.gN j hj).2; simp only; omega) (fun h => by
          rcases h with ⟨i, hi, h⟩ | h
          · have := hlow _ (hacc.in_ i hi); simp only at h; omega
          · have := hlow _ (hsub _ h); simp only at this; omega)
        have h0r := (hlow2 0 (by omega)).trans h0
        have h3r := (hlow2 3 (by omega)).trans h3
        have hgx : g j ≠ x := fun e => hxM (e ▸ hgM)
        have hgs : g j ≠ sb := by have := (hT.gN j hj).2; have := HX.out; omega
        have bd : Below wr.heap.size wr wr.drew := (Below.refl _ _).drew
        have hTd := hT.below bd
        have k32 := accept_l (A := Ad) (r := r) (n := nn) (hA1.below bd (Nat.le_refl _)) hTd.accs.hB ((bd.cell (p := ⟨0, 0, none⟩) (World.block_lt_of_cell? wr _ h0r)).trans h0r) ((bd.cell (p := ⟨3, 0, none⟩) (World.block_lt_of_cell? wr _ h3r)).trans h3r) (hl2.fr (Fr.of_below bd (fun _ => False)) hhi2 (fun _ _ _ h => h)) hhi2 (hMl2 _ hgM)
        by_cases hr : (s' j).refuse r nn = 0
        · have kc : Calls Tryd.prog 32 #[.pointer (some ⟨g j, 0, none⟩), .agg #[.int .i64 r, .int .i64 nn], .slice AL nL cL] wr.drew fun e w' => e = .returned .nilIface ∧ Took M MG w B n half K g (some ⟨bA, oA, none⟩) ga es v r nn L (.slice AL nL cL) M' MG' (upd s' j ((s' j).take r nn L)) es' (upd seen j true) seen w' ∧ Fr wr.heap.size (· = g j) wr w' := k32.mono (by
            rintro e w' ⟨rfl, f, lo', hi', hA', hm⟩
            refine ⟨by rw [hr]; rfl, hTd.accept hj hr f hlo1 hA' hm, ?_⟩
            exact (Fr.of_below bd _).trans f)
          have HC := Lib.hid kc
          have HK := Lib.hid (show ∀ wA, Fr wr.heap.size (· = g j) wr wA → wA.cell? ⟨sb, j, none⟩ = some (.bool false) ∧ wA.cell? ⟨bA, oA + j, none⟩ = some (.pointer (some ⟨g j, 0, none⟩)) ∧ wA.cell? ⟨x, 0, none⟩ = some (.int .i64 r) ∧ wA.cell? ⟨x, 1, none⟩ = some (.int .i64 nn) ∧ wA.cell? ⟨x, 2, none⟩ = some (.slice AL nL cL) from
            fun wA f => ⟨(f.cell (p := ⟨sb, j, none⟩) hS.lt (Ne.symm hgs)).trans hSj, (f.cell (p := ⟨bA, oA + j, none⟩) hbA (fun e => hMA (by simp only at e; rw [e]; exact hgM))).trans hPj, (f.cell (p := ⟨x, 0, none⟩) hX.lt (Ne.symm hgx)).trans (cX 0), (f.cell (p := ⟨x, 1, none⟩) hX.lt (Ne.symm hgx)).trans (cX 1), (f.cell (p := ⟨x, 2, none⟩) hX.lt (Ne.symm hgx)).trans (cX 2)⟩)
          have HTK2 := Lib.hid hT
          clear kc k32 hTd bd hA1 hlo1 hl2 hhi2 hMl2 h0r h3r hlow2 hr hT
          go_region_held3 (fun w' => w'.cell? ⟨sb, j, none⟩ = some (.bool false) ∧ w'.cell? ⟨bA, oA + j, none⟩ = some (.pointer (some ⟨g j, 0, none⟩)) ∧ w'.cell? ⟨x, 0, none⟩ = some (.int .i64 r) ∧ w'.cell? ⟨x, 1, none⟩ = some (.int .i64 nn) ∧ w'.cell? ⟨x, 2, none⟩ = some (.slice AL nL cL)) (go_keep)
            (first
              | (go_at_call 32
                 refine HC.out.mono ?_
                 rintro e wA ⟨rfl, tA, fA⟩
                 obtain ⟨k1, k2, k3, k4, k5⟩ := HK.out wA fA))
          have hSA := hS.fr fA hS.lt (Ne.symm hgs)
          have hXA := hX.fr fA hX.lt (Ne.symm hgx)
          have frS := hSA.frozen j
          have hsW : w.heap.size ≤ sb := by have := HX.out; omega
          have hsx : sb ≠ x := fun e => hxM (e ▸ hsM)
          clear k1 k2 k3 k4 k5 fA
          have cSA := (hSA.cell j).trans (bls_get hj)
          go_upto_region 9 with (fail)
          have f9 : Fr wA.heap.size (· = sb) wA (wA.setCell ⟨sb, j, none⟩ (.bool true)) := (Fr.refl wA.heap.size (· = sb) wA).setCell (p := ⟨sb, j, none⟩) (.inl rfl) _
          have T9 := tA.keep f9 (fun k hk => by subst hk; exact ⟨hsM, hsG, hsW⟩)
          have hS9 := hSA.set_ j (.bool true)
          rw [bls_set] at hS9
          have hX9 := hXA.far (p := ⟨sb, j, none⟩) (Ne.symm hsx) (.bool true)
          refine wp_letter (fun W9 => Took M MG w B n half K g (some ⟨bA, oA, none⟩) ga es v r nn L (.slice AL nL cL) M' MG' (upd s' j ((s' j).take r nn L)) es' (upd seen j true) seen W9 ∧ Blk W9 sb 4 (bls (upd seen j true) n) ∧ Blk W9 x 48 #[.int .i64 r, .int .i64 nn, .slice AL nL cL, .slice (some ⟨tb, tq, none⟩) nt ct]) ⟨T9, hS9, hX9⟩ ?_
          clear T9 hS9 hX9 f9 hSA hXA frS tA cSA hS hX hSj hPj hbA
          rintro W9 ⟨T9, hS9, hX9⟩
          have cX9 := hX9.cell
          have hes' : es'.length ≤ 1000 := by rcases T9.len with h | ⟨h, _⟩ <;> omega
          have kc := count_any W9 M' MG' ga es' r nn L (.slice AL nL cL) half T9.ag T9.led hes' (fun e he => by have := T9.few e he; omega) hhalf T9.sub T9.lt (T9.agreed hj hsj)
          have HKC := Lib.hid kc
          have HT9 := Lib.hid (And.intro T9 (And.intro hS9 (And.intro hX9 (And.intro hsM (And.intro hsG hxM)))))
          clear kc T9 hS9 hX9 hsM hsG hxM
          go_wp2_with (fail)
          refine HKC.out.mono ?_
          rintro e W10 ⟨rfl, hrest⟩
          have hc : CountPost M' MG' W9 ga es' (r, nn) L (.returned (.bool true)) W10 := ⟨rfl, hrest⟩
          obtain ⟨T9, hS9, hX9, hsM, hsG, hxM⟩ := HT9.out
          obtain ⟨es'', T10⟩ := T9.count hj hsj hc
          obtain ⟨_, _, _, _, _, f10⟩ := hc
          have hS10 := hS9.fr f10 hS9.lt hsG
          have hX10 := hX9.fr f10 hX9.lt (fun h => hxM (T9.sub _ h))
          have HR := Lib.hid (show BTakeInv M MG w B n half K g (some ⟨bA, oA, none⟩) ga es v r nn L (.slice AL nL cL) (.slice (some ⟨tb, tq, none⟩) nt ct) x sb (Grew M' W9 W10) (Grew MG' W9 W10) (upd s' j ((s' j).take r nn L)) es'' (upd seen j true) W10 from
            ⟨T10, .of hsM, fun h => by rcases h with h | h; exact hsG h; have := hS9.lt; omega, fun h => by rcases h with h | h; exact hxM h; have := hX9.lt; omega, hS10, hX10⟩)
          clear T9 T10 hS9 hX9 hS10 hX10 f10 hrest hsM hsG hxM HT9 HKC
          go_wp2_with (fail)
          go_roundw
          case rel => exact ⟨k + 1, by omega, by go_num, _, _, _, _, _, HR.out⟩
          case measure => simp [intOf]; omega
        · obtain ⟨a, ha⟩ : ∃ a, errq Ad ((s' j).refuse r nn) = errv a := by
            rcases refuse_cases (s' j) r nn with ⟨_, h⟩ | ⟨_, _, h⟩ | ⟨_, _, h⟩
            · exact ⟨Ad 0, by rw [h]; rfl⟩
            · exact ⟨Ad 3, by rw [h]; rfl⟩
            · exact absurd h hr
          have kc : Calls Tryd.prog 32 #[.pointer (some ⟨g j, 0, none⟩), .agg #[.int .i64 r, .int .i64 nn], .slice AL nL cL] wr.drew fun e w' => e = .returned (errv a) ∧ Took M MG w B n half K g (some ⟨bA, oA, none⟩) ga es v r nn L (.slice AL nL cL) M' MG' s' es' seen seen w' ∧ Fr wr.heap.size (· = g j) wr w' := k32.mono (by
            rintro e w' ⟨rfl, f, lo', hi', hA', hm⟩
            refine ⟨by rw [ha], hTd.refused hj hr f hlo1 hA' hm, ?_⟩
            exact (Fr.of_below bd _).trans f)
          have HC := Lib.hid kc
          have HK := Lib.hid (show ∀ wA, Fr wr.heap.size (· = g j) wr wA → wA.cell? ⟨sb, j, none⟩ = some (.bool false) ∧ wA.cell? ⟨bA, oA + j, none⟩ = some (.pointer (some ⟨g j, 0, none⟩)) ∧ wA.cell? ⟨x, 0, none⟩ = some (.int .i64 r) ∧ wA.cell? ⟨x, 1, none⟩ = some (.int .i64 nn) ∧ wA.cell? ⟨x, 2, none⟩ = some (.slice AL nL cL) from
            fun wA f => ⟨(f.cell (p := ⟨sb, j, none⟩) hS.lt (Ne.symm hgs)).trans hSj, (f.cell (p := ⟨bA, oA + j, none⟩) hbA (fun e => hMA (by simp only at e; rw [e]; exact hgM))).trans hPj, (f.cell (p := ⟨x, 0, none⟩) hX.lt (Ne.symm hgx)).trans (cX 0), (f.cell (p := ⟨x, 1, none⟩) hX.lt (Ne.symm hgx)).trans (cX 1), (f.cell (p := ⟨x, 2, none⟩) hX.lt (Ne.symm hgx)).trans (cX 2)⟩)
          clear kc k32 hTd bd hA1 hlo1 hl2 hhi2 hMl2 h0r h3r hlow2 hr hT ha
          go_region_held3 (fun w' => w'.cell? ⟨sb, j, none⟩ = some (.bool false) ∧ w'.cell? ⟨bA, oA + j, none⟩ = some (.pointer (some ⟨g j, 0, none⟩)) ∧ w'.cell? ⟨x, 0, none⟩ = some (.int .i64 r) ∧ w'.cell? ⟨x, 1, none⟩ = some (.int .i64 nn) ∧ w'.cell? ⟨x, 2, none⟩ = some (.slice AL nL cL)) (go_keep)
            (first
              | (go_at_call 32
                 refine HC.out.mono ?_
                 rintro e wA ⟨rfl, tA, fA⟩
                 obtain ⟨k1, k2, k3, k4, k5⟩ := HK.out wA fA))
          have HR := Lib.hid (show BTakeInv M MG w B n half K g (some ⟨bA, oA, none⟩) ga es v r nn L (.slice AL nL cL) (.slice (some ⟨tb, tq, none⟩) nt ct) x sb M' MG' s' es' seen wA from
            ⟨tA, hsM, hsG, hxM, hS.fr fA hS.lt (Ne.symm hgs), hX.fr fA hX.lt (Ne.symm hgx)⟩)
          clear tA fA hsM hsG hxM hS hX k1 k2 k3 k4 k5 cX hSj hPj
          go_wp2_with (fail)
          go_roundw
          case rel => exact ⟨k + 1, by omega, by go_num, _, _, _, _, _, HR.out⟩
          case measure => simp [intOf]; omega
    · have hkn : k = nt := by omega
      subst hkn
      go_wp2_with (fail)
      go_ret
      exact ⟨rfl, _, _, _, _, _, hI.1⟩
end Go.Proofs.YtnlncfjibbdimaaDoor
