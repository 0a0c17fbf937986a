/-
  RoundAgrees: a round begins (67).
-/
import Derived.Test.YtnlncfjibbdimaaDoorAgE13
import Derived.Deep.CutBlock
import Derived.Deep.DeepCutAuto
import Derived.TacticsInMore
import Derived.LoopNIn
import Derived.LoopIn
import Derived.RangeFuncBound
import Derived.RangeFuncCalls
namespace Go.Proofs.YtnlncfjibbdimaaDoor
open Go.RowKit
set_option linter.unusedSimpArgs false
set_option linter.unusedVariables false
attribute [local go_sem] Oper.semAt_some

section
variable {F : Fence} {n0 : Nat} {P : Program} {ops : Array Oper} {rest : List Oper} {a : Act} {W : World} {Q : Exit → Act → World → Prop} {d : Option Tmp} {tp : TypeId} {ps : String} {af : Array Edge}
/-- Inside a round: a slice of one struct is laid. -/
theorem lawIn_buildSlice1 (t e : TypeId) (x : Operand) (i : TypeInfo) (z : Value) (cells : Array Value) (n : Nat) (hx : a.eval x = .agg cells) (ht : P.underlying t = some (.slice e)) (hi : P.info? e = some i) (hz : i.zero = some z)
    (hs : i.size = n) (hzs : z.cells.size = n) (hn : cells.size = n) (h0 : 0 < n) (hle : n ≤ 16777216)
    (h : wpListIn F n0 P ops Q rest (a.put d (.slice (some ⟨W.heap.size, 0, none⟩) 1 1)) (W.alloc (.cells cells e))) :
    wpListIn F n0 P ops Q ({ dst := d, op := .buildSlice t 1 #[(0, x)], type := tp, pos := ps, after := af, guard := none } :: rest) a W := by
  subst hn
  have hr := run_buildSlice1 t e i z cells ht hi hz hs hzs h0 hle W
  refine wpListIn_of_run rfl (fun c e => by cases e) (by simp [Oper.about]) _ _ ?_ h
  unfold execOp
  simp only [List.map_toArray, List.map_cons, List.map_nil, hx, Sem.run_bind, hr, Result.andThen_ok, Sem.run_pure]
end

/-- A letter that asks, as its cells. -/
def askc (who : Nat) (br bn x : Int) : List Value := [.int .i64 who, .int .i64 x, .bool false, .bool false, .int .i64 br, .int .i64 bn, .int .i64 0, .int .i64 0, .slice none 0 0]
def asksL (who : Nat) (br bn : Int) (zs : List Int) : List (Let × Value) := zs.map fun x => (⟨who, x.toNat, false, false, (br, bn), (0, 0), []⟩, .slice none 0 0)
theorem asks_letc (who : Nat) (br bn : Int) : ∀ (zs : List Int), (∀ x ∈ zs, 0 ≤ x) → zs.flatMap (askc who br bn) = letc (asksL who br bn zs)
  | [], _ => rfl
  | x :: zs, h => by
    have ih := asks_letc who br bn zs (fun y hy => h y (by simp [hy]))
    have e1 : (x :: zs).flatMap (askc who br bn) = askc who br bn x ++ zs.flatMap (askc who br bn) := rfl
    have e2 : letc (asksL who br bn (x :: zs)) = askc who br bn (x.toNat : Int) ++ letc (asksL who br bn zs) := rfl
    rw [e1, e2, ih, show ((x.toNat : Nat) : Int) = x by have := h x (by simp); omega]

/-- What a round's beginning comes to. -/
def BegPost (M : Nat → Prop) (B lo hi g gr ga n i : Nat) (s : Acc) (f : Nat → Bool) (r : Rnd) (pv lv : Value) (w : World) (e : Ending) (w' : World) : Prop :=
  ∃ v ps f' r' lv', e = .returned v ∧ LetsAt M w' w.heap.size v ps ∧ AccL w' B lo hi g 156 (s.clm r.br) ∧ RndF w' M B gr ga n f' r' pv lv' ∧ Fr w.heap.size (fun k => k = g ∨ k = gr ∨ k = ga) w w' ∧
    ((ps = [] ∧ f' = f ∧ r' = r) ∨ (s.clmQ r.br = 0 ∧ r.stage < 3 ∧ lg (s.clmR r.br) (s.clmN r.br) = true ∧ ab (s.clmR r.br) (s.clmN r.br) r.br r.bn = true ∧ f' = (fun _ => false) ∧ r' = r.began (s.clmR r.br) (s.clmN r.br) ∧ ps = asksL i (s.clmR r.br) (s.clmN r.br) (missL 1 (fun _ => false) n)))

set_option maxRecDepth 100000 in
set_option maxHeartbeats 12800000 in
theorem begins13_any (w : World) (M : Nat → Prop) (B lo hi g gr ga n i : Nat) (A : Nat → Addr) (s : Acc) (f : Nat → Bool) (r : Rnd) (pv lv : Value) (hA : AccL w B lo hi g 156 s) (hAM : ∀ m, M m → m < lo ∨ hi ≤ m) (mg : M g) (hs : s.Good)
    (hR : RndF w M B gr ga n f r pv lv) (hM : ∀ m, M m → 11 ≤ m ∧ m < w.heap.size) (hE : E13 w A) (hn : 0 < n) :
    Calls Tryd.prog 67 #[.pointer (some ⟨g, 0, none⟩), .pointer (some ⟨gr, 0, none⟩), .int .i64 i] w (BegPost M B lo hi g gr ga n i s f r pv lv w) := by
  have hgg : g ≠ gr ∧ g ≠ ga := by
    obtain ⟨_, _, _, u, hu, _⟩ := hA
    exact ⟨blk_ne13 hu hR.row (by decide), blk_ne13 hu hR.ans (by decide)⟩
  refine callsIn_wide.1 (callsIn_of_wp_marks (n := 5) Tryd.func67 rfl trivial (wpIn_wide.2 ?_) rfl)
  simp only [Tryd.ntmps67, List.size_toArray, List.length_cons, List.length_nil, Nat.reduceAdd, Nat.reduceSub, Array.replicate_succ, Array.replicate_zero, List.push_toArray, List.append_toArray, List.nil_append, List.cons_append]
  go_upto_region 1 with (fail)
  have bA : Below w.heap.size w (w.alloc (.cells #[.int .i64 i] 3)) := (Below.refl _ _).alloc (Nat.le_refl _) _
  refine wp_letter (fun W => AccL W B lo hi g 156 s ∧ RndF W M B gr ga n f r pv lv ∧ E13 W A ∧ Boxed W w.heap.size 3 (.int .i64 i) ∧ Below w.heap.size w W) ⟨hA.below bA (Nat.le_refl _), hR.below bA, hE.below bA, Boxed.new _ _ _, bA⟩ ?_
  clear bA
  rintro w1 ⟨hA1, hR1, hE1, hX1, b1⟩
  obtain ⟨x, hx⟩ : ∃ x, x = w.heap.size := ⟨_, rfl⟩
  rw [← hx] at hX1 ⊢
  have hMx : ∀ m, M m → m < x := fun m hm => by rw [hx]; exact (hM m hm).2
  have k127 := ballot127 w1 _ _ _ _ _ _ _ _ hR1.at_
  have HP := Lib.hid (And.intro hA1 (And.intro hR1 (And.intro hE1 (And.intro hX1 (And.intro b1 (And.intro hMx (And.intro hAM (And.intro mg (And.intro hs (And.intro hn (And.intro hgg (And.intro (fun m hm => (hM m hm).1) (And.intro hx k127)))))))))))))
  clear hA1 hR1 hE1 hX1 b1 hMx hAM mg hs hn hgg hM hx k127 hA hR hE
  obtain ⟨q, hq⟩ : ∃ q, q = s.clmQ r.br := ⟨_, rfl⟩
  obtain ⟨R, hR⟩ : ∃ R, R = s.clmR r.br := ⟨_, rfl⟩
  obtain ⟨N, hN⟩ : ∃ N, N = s.clmN r.br := ⟨_, rfl⟩
  obtain ⟨ev, hev⟩ : ∃ ev, ev = errq A q := ⟨_, rfl⟩
  have HQ := Lib.hid (And.intro hq (And.intro hR (And.intro hN hev)))
  clear hq hR hN hev
  go_upto_region 2 with (first
    | (go_at_call 127
       refine HP.out.2.2.2.2.2.2.2.2.2.2.2.2.2.mono ?_
       rintro e w2 ⟨rfl, b2⟩
       have H2 := Lib.hid b2
       clear b2)
    | (go_at_call 33
       refine (claim_l (A := A) (HP.out.1.below H2.out (Nat.le_refl _)) HP.out.2.2.2.2.2.2.2.2.1 ((HP.out.2.2.1.below H2.out) 4 (by simp))).mono ?_
       rintro e w3 ⟨he, f3, a3⟩
       rw [← HQ.out.1, ← HQ.out.2.1, ← HQ.out.2.2.1, ← HQ.out.2.2.2] at he
       subst he
       have H3 := Lib.hid (And.intro f3 a3)
       clear f3 a3)
    | fail)
  obtain ⟨s', hs'⟩ : ∃ s', s' = s.clm r.br := ⟨_, rfl⟩
  have F3 : Fr w1.heap.size (fun k => k = g) w1 w3 := (Fr.of_below H2.out _).trans (H3.out.1.mono H2.out.size (fun _ _ h => h))
  have hgM : ∀ k, k = g → M k := fun k hk => by rw [hk]; exact HP.out.2.2.2.2.2.2.2.1
  have R3 := HP.out.2.1.fr F3 (Nat.le_refl _) hgM (fun e => HP.out.2.2.2.2.2.2.2.2.2.2.1.1 e.symm) (fun e => HP.out.2.2.2.2.2.2.2.2.2.2.1.2 e.symm)
  have E3 : E13 w3 A := fun q hq => (F3.cell (p := ⟨q, 0, none⟩) (World.block_lt_of_cell? w1 _ (HP.out.2.2.1 q hq)) (fun e => by have := HP.out.2.2.2.2.2.2.2.2.2.2.2.1 g HP.out.2.2.2.2.2.2.2.1; simp only at e; omega)).trans (HP.out.2.2.1 q hq)
  have X3 : Boxed w3 x 3 (.int .i64 i) := (F3.block x HP.out.2.2.2.1.lt (fun e => by have := HP.out.2.2.2.2.2.1 g HP.out.2.2.2.2.2.2.2.1; omega)).trans HP.out.2.2.2.1
  have bA3 : Below w3.heap.size w3 (w3.alloc (.cells #[.int .i64 R, .int .i64 N] 23)) := (Below.refl _ _).alloc (Nat.le_refl _) _
  refine wp_letter (fun W => AccL W B lo hi g 156 s' ∧ RndF W M B gr ga n f r pv lv ∧ E13 W A ∧ Boxed W x 3 (.int .i64 i) ∧ Blk W w3.heap.size 23 #[.int .i64 R, .int .i64 N] ∧ Fr w1.heap.size (fun k => k = g) w1 W)
    ⟨by rw [hs']; exact H3.out.2.below bA3 (Nat.le_refl _), R3.below bA3, E3.below bA3, (bA3.block x X3.lt).trans X3, Blk.new _ _ _, F3.trans (Fr.of_below (bA3.mono F3.size) _)⟩ ?_
  have HS := Lib.hid hs'
  clear F3 hgM R3 E3 X3 bA3 hs'
  rintro W ⟨hA4, hR4, hE4, hX4, hY4, F4⟩
  obtain ⟨y, hy⟩ : ∃ y, y = w3.heap.size := ⟨_, rfl⟩
  rw [← hy] at hY4 ⊢
  have hxy : x < y := by
    have h1 := HP.out.2.2.2.1.lt
    have h2 := H2.out.size
    have h3 := H3.out.1.size
    omega
  have H4 := Lib.hid (And.intro hA4 (And.intro hR4 (And.intro hE4 (And.intro hX4 (And.intro hY4 (And.intro F4 hxy))))))
  clear hA4 hR4 hE4 hX4 hY4 F4 hxy hy H2 H3
  -- what is answered where nothing begins
  have hno : ∀ W', Below W.heap.size W W' → BegPost M B lo hi g gr ga n i s f r pv lv w (.returned (.slice none 0 0)) W' := fun W' b => by
    have F5 : Fr w.heap.size (fun k => k = g ∨ k = gr ∨ k = ga) w W' := (Fr.of_below HP.out.2.2.2.2.1 _).trans (((H4.out.2.2.2.2.2.1.trans (Fr.of_below (b.mono H4.out.2.2.2.2.2.1.size) _))).mono HP.out.2.2.2.2.1.size (fun _ _ h => .inl h))
    exact ⟨_, [], f, r, lv, rfl, LetsAt.nil_ _ _ _, by rw [← HS.out]; exact H4.out.1.below b (Nat.le_refl _), H4.out.2.1.below b, F5, .inl ⟨rfl, rfl, rfl⟩⟩
  have HNO := Lib.hid hno
  clear hno
  have hq2 : q = 0 ∨ q = 10 := by rw [HQ.out.1]; unfold Acc.clmQ; split <;> simp
  rcases hq2 with rfl | rfl
  · obtain rfl : ev = .nilIface := by rw [HQ.out.2.2.2]; simp [errq]
    have y0 := H4.out.2.2.2.2.1.cell 0
    have y1 := H4.out.2.2.2.2.1.cell 1
    by_cases h3 : 3 ≤ r.stage
    · have k55 := H4.out.2.1.begin_late R N (A 1) (H4.out.2.2.1 1 (by simp)) h3
      have HK := Lib.hid k55
      clear k55 h3
      go_wp2_with (first
        | (go_at_call 55; refine HK.out.mono ?_; rintro e w5 ⟨rfl, b5⟩; have H5 := Lib.hid b5; clear b5)
        | fail)
      exact bodyM_ret (v := .slice none 0 0) rfl (results_tmp (t := 6) rfl _ _ _) (HNO.out _ H5.out)
    · by_cases hl : lg R N = true ∧ ab R N r.br r.bn = true
      · have k55 := H4.out.2.1.begin_yes (fun m hm => by have := HP.out.2.2.2.2.2.1 m hm; have := H4.out.2.2.2.1.lt; omega) R N (A 3) (H4.out.2.2.1 3 (by simp)) (by omega) hl.1 hl.2 HP.out.2.2.2.2.2.2.2.2.2.1
        have HK := Lib.hid (And.intro k55 (And.intro h3 hl))
        clear k55 h3 hl
        go_upto_region 5 with (first
          | (go_at_call 55; refine HK.out.1.mono ?_; rintro e w5 ⟨rfl, R5, F5⟩; have H5 := Lib.hid (And.intro R5 F5); clear R5 F5)
          | fail)
        have hz := HP.out.2.2.2.2.2.2.2.2.2.2.2.2.1
        have hMx := HP.out.2.2.2.2.2.1
        have hxW := H4.out.2.2.2.1.lt
        have X5 : Boxed w5 x 3 (.int .i64 i) := (H5.out.2.block x hxW (fun e => by
          have h1 := hMx _ HP.out.2.1.mg
          have h2 := hMx _ HP.out.2.1.mga
          rcases e with e | e <;> omega)).trans H4.out.2.2.2.1
        have Y5 : Blk w5 y 23 #[.int .i64 R, .int .i64 N] := H4.out.2.2.2.2.1.fr H5.out.2 H4.out.2.2.2.2.1.lt (fun e => by
          have h0 := H4.out.2.2.2.2.2.2
          have h1 := hMx _ HP.out.2.1.mg
          have h2 := hMx _ HP.out.2.1.mga
          rcases e with e | e <;> omega)
        obtain ⟨i1, z1, hi1, hz11, hz12, hz13, hz14⟩ := let_info'
        have HX5 := Lib.hid (And.intro X5 Y5)
        clear X5 Y5 hz hMx hxW y0 y1
        refine wp_letter (fun W => Below w5.heap.size w5 W ∧ Boxed W (w5.heap.size + 1) 126 (.slice (some ⟨w5.heap.size, 0, none⟩) 0 0) ∧ W.ownsRow w5.heap.size 131 9 (.slice (some ⟨w5.heap.size, 0, none⟩) 0 0) 0 [])
          ⟨((Below.refl _ _).alloc (Nat.le_refl _) _).alloc (by simp) _, by have := Boxed.new (w5.alloc (.cells #[] 131)) 126 (.slice (some ⟨w5.heap.size, 0, none⟩) 0 0); rw [World.size_alloc] at this; exact this, (World.ownsRow_made w5 #[] 0 (Nat.le_refl _) (by simp [maxLen]) (by simp)).alloc _⟩ ?_
        rintro W6 ⟨b6, hX6, hrow6⟩
        obtain ⟨N5, hN5⟩ : ∃ N5, N5 = w5.heap.size := ⟨_, rfl⟩
        obtain ⟨Bx, hBx⟩ : ∃ Bx, Bx = w5.heap.size + 1 := ⟨_, rfl⟩
        rw [← hBx, ← hN5] at hX6
        rw [← hN5] at hrow6
        rw [← hBx, ← hN5]
        obtain ⟨zs, hzs⟩ : ∃ zs, zs = missL 1 (fun _ => false) n := ⟨_, rfl⟩
        have hn16 : n ≤ 16 := HP.out.2.1.sz
        have hzl : zs.length ≤ 16 := by rw [hzs]; exact Nat.le_trans (missL_len _ _ _) hn16
        have k129 := missing_any W6 _ _ _ _ _ _ _ _ ((H5.out.1.below b6).at_)
        rw [show (r.began R N).stage = 1 from rfl, ← hzs] at k129
        have hNB : N5 ≤ W6.heap.size := by rw [hN5]; exact b6.size
        have H6 := Lib.hid (And.intro b6 (And.intro hX6 (And.intro hrow6 (And.intro hN5 (And.intro hBx (And.intro hzs k129))))))
        clear b6 hX6 hrow6 hN5 hBx hzs k129
        go_wp2_with (first
          | (go_at_call 129
             refine H6.out.2.2.2.2.2.2.mono ?_
             rintro e w7 ⟨Bs, b, sv, rfl, hBs1, hBs2, hb1, hb2, hc7, hI7, b7⟩)
          | fail)
        have hX7 : Boxed w7 Bx 126 (.slice (some ⟨N5, 0, none⟩) 0 0) := (b7.block Bx H6.out.2.1.lt).trans H6.out.2.1
        have hrow7 := ownsRow_frS H6.out.2.2.1 (Fr.of_below b7 (fun _ => False)) (Nat.le_refl _) (fun _ _ h => h)
        have hN7 : N5 ≤ w7.heap.size := Nat.le_trans hNB b7.size
        have hBxN : N5 ≤ Bx := by have := H6.out.2.2.2.1; have := H6.out.2.2.2.2.1; omega
        have hbB : b ≠ Bx := by have := H6.out.2.1.lt; omega
        have b57 : Below w5.heap.size w5 w7 := H6.out.1.trans (b7.mono H6.out.1.size)
        have H7 := Lib.hid (And.intro b57 (And.intro hX7 hrow7))
        clear b7 hX7 hrow7 b57
        refine (wpIn_wide (n := 5)).1 ?_
        refine wpIn_rangeFunc_ownG (F := Fence.wide) (n := 5) rfl (by omega) (gf := 170) (lb := #[.pointer (some ⟨Bs, 0, none⟩)]) rfl trivial (enters_of Tryd.func170 (by kernel_rfl) rfl)
          (vals_stops Fence.wide 4 trivial rfl (by omega) Bs b sv zs (by omega) w7 hBs2 hb2 hc7 hI7) (fun h k => Kb.tr h k) (kb_b hb2) (Below.refl _ _) (fun _ => rfl)
          (fun (pre : List Int) W => (∃ v, Boxed W Bx 126 v ∧ W.ownsRow N5 131 9 v pre.length (pre.flatMap (askc i R N)) ∧ ∀ q, v.ownBlock = some q → q ≠ b) ∧ Below N5 w7 W ∧ w7.heap.size ≤ W.heap.size)
          (fun _ _ _ => False)
          (OwnFrom.and (Own.from (holds_own N5 Bx b 126 131 9 (fun (pre : List Int) => pre.length) (fun (pre : List Int) => pre.flatMap (askc i R N))) _) (OwnFrom.and (ownFrom_below hN7 hN7) (fun _ X Y row hs hg _ => Nat.le_trans hs hg.size)))
          (fun _ _ _ _ _ hs _ _ => hs)
          ⟨⟨_, H7.out.2.1, H7.out.2.2, fun q hq => by simp [Value.ownBlock] at hq; have := H6.out.2.1.lt; have := H6.out.2.2.2.1; have := H6.out.2.2.2.2.1; omega⟩, Below.refl _ _, Nat.le_refl _⟩
          ?a1 ?assign ?body ?done ?stop
        case assign =>
          intro l z W K hK
          gi_wp2
          exact hK
        case body =>
          rintro l pre z W8 ⟨⟨v, hv, hrow, hvb⟩, hB, hsz⟩ hlt
          have hc := hv.cell
          have hWN : N5 ≤ W8.heap.size := Nat.le_trans hN7 hsz
          have hbW : b < W8.heap.size := Nat.lt_of_lt_of_le hb2 hsz
          have hb58 : Below w5.heap.size w5 W8 := H7.out.1.trans (by rw [← H6.out.2.2.2.1]; exact hB)
          have cx : W8.cell? ⟨x, 0, none⟩ = some (.int .i64 i) := by
            have : Boxed W8 x 3 (.int .i64 i) := (hb58.block x HX5.out.1.lt).trans HX5.out.1
            exact this.cell
          have hY8 := HX5.out.2.below hb58 HX5.out.2.lt
          have cy0 : W8.cell? ⟨y, 0, none⟩ = some (.int .i64 R) := hY8.cell 0
          have cy1 : W8.cell? ⟨y, 1, none⟩ = some (.int .i64 N) := hY8.cell 1
          clear hY8
          gi_wp2_with (first
            | ((with_reducible refine lawIn_buildSlice1 126 131 (.tmp 34) i1 z1 (askc i R N z).toArray 9 ?_ Tryd.underlying126 hi1 hz11 hz12 hz14 ?_ (by decide) (by decide) ?_); rfl; rfl)
            | (gi_at_builtin; refine wpListIn_append_any _ rfl _ _ 126 rfl N5 131 i1 z1 9 80 Tryd.underlying126 hi1 hz11 hz12 hz13 hz14 (by omega) v pre.length (pre.flatMap (askc i R N)) rfl (hrow.alloc _) 0 (W8.heap.size + 1) (some ⟨W8.heap.size, 0, none⟩) 1 1 (askc i R N z) rfl ⟨rfl, fun _ => ⟨_, rfl, Nat.zero_le _, Nat.lt_succ_self _, fun j u hu => by
                rw [Addr.add_mid]
                exact (Blk.new W8 131 (askc i R N z).toArray).range (cs := askc i R N z) j u hu⟩⟩ (by simp [askc, Value.oneCell']) (by simp only [maxLen]; omega) (by omega) (by simp; omega) ?_; intro v' w1 hown' hgrow hat; obtain ⟨g', cap', rfl⟩ := ownsRow_succ hown'; obtain ⟨hv1, hv2, hr2, hk2, hb2', hkb, hvb'⟩ := Boxed.collected hv (by decide) hrow hWN hBxN hown' hgrow hat hbW hbB hvb; have hc1 := hv1.cell; have hf1 := hv1.frozen))
          have e3 : (pre ++ [z]).flatMap (askc i R N) = pre.flatMap (askc i R N) ++ askc i R N z := by simp
          exact ⟨hk2.from _, hkb, ⟨_, hv2, by rw [e3, List.length_append]; exact hr2, hvb'⟩, hB.trans hb2', Nat.le_trans hsz hb2'.size⟩
        case done =>
          rintro D ys W8 hD rfl ⟨⟨v, hv, hrow, hvb⟩, hB, hsz⟩ hK
          have hc := hv.cell
          have H8 := Lib.hid (And.intro hB (And.intro hsz (And.intro hrow hK)))
          clear hB hsz hrow hvb hK
          obtain ⟨A9, c9, hv9, _⟩ := (show OwnRow W8 N5 W8.heap.size 131 9 v ys.length (ys.flatMap (askc i R N)) from ⟨H8.out.2.2.1, fun g hg => (H8.out.2.2.1.lt g hg).2⟩).form
          obtain ⟨m9, hm9⟩ : ∃ m9, m9 = ys.length := ⟨_, rfl⟩
          rw [← hm9] at hv9
          subst hv9
          have HM9 := Lib.hid hm9
          clear hm9
          go_wp2_with (fail)
          have hK := H8.out.2.2.2
          have h57 := H7.out.1
          have h58 : Below w5.heap.size w5 W8 := h57.trans (by rw [← H6.out.2.2.2.1]; exact H8.out.1)
          have hDl : w5.heap.size ≤ D := Nat.le_trans h57.size hD
          have h59 := shut_below (N := w5.heap.size) (Nat.le_refl _) hDl hK h58 (o' := .deferred none)
          have hrow9 := ownsRow_putObj H8.out.2.2.1 (.deferred none) hK rfl
          have hwN : w.heap.size ≤ N5 := by
            rw [H6.out.2.2.2.1]
            exact Nat.le_trans HP.out.2.2.2.2.1.size (Nat.le_trans H4.out.2.2.2.2.2.1.size H5.out.2.size)
          have hgm : ∀ k, k = gr ∨ k = ga → M k := fun k hk => by
            rcases hk with rfl | rfl
            · exact HP.out.2.1.mg
            · exact HP.out.2.1.mga
          have hA5 : AccL w5 B lo hi g 156 s' := H4.out.1.fr H5.out.2 (Nat.le_refl _) (fun e => e.elim HP.out.2.2.2.2.2.2.2.2.2.2.1.1 HP.out.2.2.2.2.2.2.2.2.2.2.1.2) (fun k k1 k2 hk => by have := HP.out.2.2.2.2.2.2.1 k (hgm k hk); omega)
          have F09 : Fr w.heap.size (fun k => k = g ∨ k = gr ∨ k = ga) w (W8.putObj D (.deferred none)) :=
            (((Fr.of_below HP.out.2.2.2.2.1 _).trans (H4.out.2.2.2.2.2.1.mono HP.out.2.2.2.2.1.size (fun _ _ h => .inl h))).trans (H5.out.2.mono (Nat.le_trans HP.out.2.2.2.2.1.size H4.out.2.2.2.2.2.1.size) (fun _ _ h => .inr h))).trans (Fr.of_below (h59.mono (Nat.le_trans HP.out.2.2.2.2.1.size (Nat.le_trans H4.out.2.2.2.2.2.1.size H5.out.2.size))) _)
          refine ⟨by simp, .inl ⟨_, _, rfl, run_takeDeferred hK, ?_⟩⟩
          refine ⟨.slice A9 m9 c9, results_tmp (t := 6) rfl _ _ _, _, asksL i R N ys, fun _ => false, r.began R N, .slice none 0 0, rfl, ⟨?_, fun p hp => ?_⟩, by rw [← HS.out]; exact hA5.below h59 (Nat.le_refl _), H5.out.1.below h59, F09, .inr ⟨HQ.out.1.symm, by have := HK.out.2.1; omega, ?_, ?_, rfl, ?_, ?_⟩⟩
          · have e1 : (asksL i R N ys).length = ys.length := by simp [asksL]
            have e2 := asks_letc i R N ys (fun z hz => (missL_rng (by rw [H6.out.2.2.2.2.2.1] at hz; exact hz)).1)
            rw [e1, ← e2]
            exact ⟨hrow9.1, hrow9.2.imp id (fun ⟨g, cap, cur, e1, e2, r⟩ => ⟨g, cap, cur, e1, Nat.le_trans hwN e2, r⟩)⟩
          · obtain ⟨z, _, rfl⟩ := List.mem_map.1 hp
            exact Lf.nil13 _ _
          · rw [← HQ.out.2.1, ← HQ.out.2.2.1]; exact HK.out.2.2.1
          · rw [← HQ.out.2.1, ← HQ.out.2.2.1]; exact HK.out.2.2.2
          · rw [← HQ.out.2.1, ← HQ.out.2.2.1]
          · rw [← HQ.out.2.1, ← HQ.out.2.2.1, H6.out.2.2.2.2.2.1]
        case stop =>
          rintro D c pre W8 _ _ h _
          exact h.elim
      · have k55 := H4.out.2.1.begin_no R N (A 3) (H4.out.2.2.1 3 (by simp)) (by omega) hl
        have HK := Lib.hid k55
        clear k55 h3 hl
        go_wp2_with (first
          | (go_at_call 55; refine HK.out.mono ?_; rintro e w5 ⟨rfl, b5⟩; have H5 := Lib.hid b5; clear b5)
          | fail)
        exact bodyM_ret (v := .slice none 0 0) rfl (results_tmp (t := 6) rfl _ _ _) (HNO.out _ H5.out)
  · obtain rfl : ev = errv (A 4) := by rw [HQ.out.2.2.2]; simp [errq]
    go_wp2_with (fail)
    exact bodyM_ret (v := .slice none 0 0) rfl (results_tmp (t := 6) rfl _ _ _) (HNO.out _ (Below.refl _ _))
end Go.Proofs.YtnlncfjibbdimaaDoor
