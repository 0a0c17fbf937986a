/-
  Layer 15's Get of all bytes.
-/
import Derived.Test.YtnlncfjibbdimaaDoorUPWire
namespace Go.Proofs.YtnlncfjibbdimaaDoor
open Go.RowKit
set_option linter.unusedSimpArgs false
set_option linter.unusedVariables false
/-- What Get answers. -/
def PGetPost (bs : List Nat) (a2 a8 : Addr) (w : World) (e : Ending) (w' : World) : Prop :=
  ∃ lv fv, e = .returned (.tuple #[.agg ((pans bs).2.cells lv fv).toArray, rerr a2 a8 (pans bs).1]) ∧ MsgAt w' w.heap.size w'.heap.size lv fv (pans bs).2 ∧ Below w.heap.size w w'
/-- The numbers read so far in their row of fourteen. -/
def row14 (ns : List Int) : Array Value := (ns.map (fun z => Value.int .i64 z) ++ List.replicate (14 - ns.length) (Value.int .i64 0)).toArray
theorem row14_set {ns : List Int} (z : Int) (h : ns.length < 14) : (row14 ns).setIfInBounds ns.length (.int .i64 z) = row14 (ns ++ [z]) := by
  unfold row14
  obtain ⟨k, hk⟩ : ∃ k, 14 - ns.length = k + 1 := ⟨13 - ns.length, by omega⟩
  have hk2 : 14 - (ns ++ [z]).length = k := by rw [List.length_append]; simp; omega
  rw [hk2, hk, List.replicate_succ]
  simp [List.set_append]
theorem row14_get {ns : List Int} {j : Nat} (hj : ns.length = j) (h : j < 14) : (row14 ns)[j]? = some (.int .i64 0) := by
  subst hj
  unfold row14
  obtain ⟨k, hk⟩ : ∃ k, 14 - ns.length = k + 1 := ⟨13 - ns.length, by omega⟩
  rw [hk, List.replicate_succ]
  simp
theorem zero_at (w : World) (lo hi : Nat) (h : hi ≤ w.heap.size) : MsgAt w lo hi (.slice none 0 0) (.slice none 0 0) zeroMsg :=
  ⟨(OwnLed.nil_ w lo hi).at_, ⟨none, 0, rfl, by simp [zeroMsg], by omega, fun _ => rfl, by simp [zeroMsg], fun x h => by simp [zeroMsg] at h, Rd.none_⟩, fun c hc => by simp [zeroMsg] at hc, h⟩
theorem pget_refuse {bs : List Nat} {a2 a8 b : Addr} {w w' : World} (k : Nat) (h : pans bs = (k, zeroMsg)) (hb : errv b = rerr a2 a8 k) (hB : Below w.heap.size w w') : PGetPost bs a2 a8 w (.returned (.tuple #[.agg zRow, errv b])) w' :=
  ⟨.slice none 0 0, .slice none 0 0, by rw [h, hb]; rfl, by rw [h]; exact zero_at _ _ _ (Nat.le_refl _), hB⟩
theorem pMsg_none1 {xs : List Nat} (h : pNums 14 xs = none) : pMsg xs = none := by unfold pMsg; rw [h]; rfl
theorem pMsg_none2 {xs R : List Nat} {ns : List Int} (h1 : pNums 14 xs = some (ns, R)) (h2 : pPiece R = none) : pMsg xs = none := by unfold pMsg; rw [h1]; simp only [Option.bind_some, h2]; rfl
theorem pMsg_none3 {xs R lb R2 : List Nat} {ns : List Int} (h1 : pNums 14 xs = some (ns, R)) (h2 : pPiece R = some (lb, R2)) (h3 : pBytes 4096 R2 = none) : pMsg xs = none := by
  unfold pMsg; rw [h1]; simp only [Option.bind_some, h2, h3]; rfl
theorem pMsg_none4 {xs R lb R2 f R3 : List Nat} {ns : List Int} (h1 : pNums 14 xs = some (ns, R)) (h2 : pPiece R = some (lb, R2)) (h3 : pBytes 4096 R2 = some (f, R3))
    (h4 : ¬ ((rans lb).1 = 0 ∧ R3 = [] ∧ ns.getD 13 0 ≤ 1 ∧ chkM (msgOf ns (rans lb).2 f) = true)) : pMsg xs = none := by
  unfold pMsg; rw [h1]; simp only [Option.bind_some, h2, h3]; rw [if_neg h4]
theorem pMsg_bad {xs R lb R2 : List Nat} {ns : List Int} (h1 : pNums 14 xs = some (ns, R)) (h2 : pPiece R = some (lb, R2)) (h0 : ¬ (rans lb).1 = 0) : pMsg xs = none := by
  cases h3 : pBytes 4096 R2 with
  | none => exact pMsg_none3 h1 h2 h3
  | some x => exact pMsg_none4 h1 h2 h3 (fun h => h0 h.1)
theorem pMsg_some {xs R lb R2 f : List Nat} {ns : List Int} (h1 : pNums 14 xs = some (ns, R)) (h2 : pPiece R = some (lb, R2)) (h3 : pBytes 4096 R2 = some (f, []))
    (h4 : (rans lb).1 = 0) (h5 : ns.getD 13 0 ≤ 1) (h6 : chkM (msgOf ns (rans lb).2 f) = true) : pMsg xs = some (msgOf ns (rans lb).2 f) := by
  unfold pMsg; rw [h1]; simp only [Option.bind_some, h2, h3]; rw [if_pos ⟨h4, trivial, h5, h6⟩]
theorem pans_none {xs : List Nat} (h : pMsg xs = none) : pans (sealN xs) = (5, zeroMsg) := by rw [pans_seal, h]
theorem pans_some {xs : List Nat} {m : Msg} (h : pMsg xs = some m) : pans (sealN xs) = (0, m) := by rw [pans_seal, h]
theorem own_none {w : World} {lo n c : Nat} {A : Option Addr} {bs : List Nat} (h : OwnB w lo (.slice A n c) bs) : A = none → c = 0 := fun hA => by
  subst hA
  rcases h.2.2.2 with ⟨h1, _⟩ | ⟨_, _, _, h1, _⟩
  · injection h1
  · injection h1 with h1
    cases h1
theorem own_rd {w : World} {lo n c : Nat} {A : Option Addr} {bs : List Nat} (h : OwnB w lo (.slice A n c) bs) : Rd w 0 w.heap.size 1 A bs.length (u8s bs) := by
  obtain ⟨⟨A', c', hv⟩, _, ho⟩ := h
  injection hv with e1 e2 e3
  subst e1 e2 e3
  exact (Rd.of_own ho (fun g hg => (ho.lt g hg).2)).wider (Nat.zero_le _) (Nat.le_refl _)
theorem own_cap {w : World} {lo n c : Nat} {A : Option Addr} {bs : List Nat} (h : OwnB w lo (.slice A n c) bs) : bs.length ≤ c ∧ c ≤ 9223372036854775807 := by
  rcases h.2.2.2 with ⟨h1, h2⟩ | ⟨_, _, _, h1, _, _, h2, h3, _⟩
  · injection h1 with _ _ h1
    omega
  · injection h1 with _ _ h1
    subst h1
    simp only [maxLen] at h3
    exact ⟨h2, h3⟩
theorem zRow_one : zRow.all (·.oneCell') = true := by simp [zRow, Value.oneCell']
/-- The state of Get's loop: g the reader, x the answer's row, y the row of numbers. -/
structure GetInv (w : World) (lo g x y : Nat) (xs : List Nat) (j : Nat) (ns : List Int) (R : List Nat) (W : World) : Prop where
  bel : Below w.heap.size w W
  hx : Blk W x 143 zRow
  hy : Blk W y 224 (row14 ns)
  rem : Rem W lo g R
  par : pNums j xs = some (ns, R)
  len : ns.length = j
  low : w.heap.size ≤ x ∧ w.heap.size ≤ y ∧ w.heap.size ≤ g
  ne : x ≠ y ∧ x ≠ g ∧ y ≠ g
set_option maxRecDepth 100000 in
set_option maxHeartbeats 6400000 in
theorem pget_open (w : World) (xs : List Nat) (hi c : Nat) (A : Option Addr) (n : Nat) (hn : n = (sealN xs).length) (hr : Rd w 0 hi 1 A n (u8s (sealN xs))) (hhi : hi ≤ w.heap.size) (hl : n ≤ 140737488351232) (hc : n ≤ c ∧ c ≤ 9223372036854775807) (h256 : ∀ x ∈ sealN xs, x < 256)
    (a1 a2 a8 : Addr) (h1 : w.cell? ⟨1, 0, none⟩ = some (errv a1)) (h2 : w.cell? ⟨2, 0, none⟩ = some (errv a2)) (h8 : w.cell? ⟨8, 0, none⟩ = some (errv a8)) : Calls Tryd.prog 80 #[.slice A n c] w (PGetPost (sealN xs) a2 a8 w) := by
  have h01 := World.block_lt_of_cell? w _ h1
  have h02 := World.block_lt_of_cell? w _ h2
  have h08 := World.block_lt_of_cell? w _ h8
  have HG := Lib.hid (show ∀ W, Below w.heap.size w W → W.cell? ⟨1, 0, none⟩ = some (errv a1) ∧ W.cell? ⟨2, 0, none⟩ = some (errv a2) ∧ W.cell? ⟨8, 0, none⟩ = some (errv a8) ∧ W.heap.size > 8 from fun W b => ⟨(b.cell h01).trans h1, (b.cell h02).trans h2, (b.cell h08).trans h8, by have := b.size; simp only at h08; omega⟩)
  have k135 : ∀ W, Below w.heap.size w W → Calls Tryd.prog 135 #[.slice A n c] W fun e w' => Below W.heap.size W w' ∧ ∃ A' c', e = .returned (.tuple #[.slice A' xs.length c', .nilIface]) ∧ w'.ownsRow W.heap.size 5 1 (.slice A' xs.length c') xs.length (u8s xs) := by
    intro W b
    rw [hn] at hr hl hc ⊢
    refine (wopen_any W hi c A (sealN xs) (hr.fr (Fr.of_below b (fun _ => False)) hhi (fun k _ _ h => h)) (Nat.le_trans hhi b.size) hl hc h256 a2 a8 ((b.cell h02).trans h2) ((b.cell h08).trans h8)).mono ?_
    rintro e w1 ⟨b1, ⟨hs, rfl⟩ | ⟨hs1, hs2, rfl⟩ | ⟨ys, A1, c1, hbs, rfl, o1⟩⟩
    · rw [sealN_length] at hs; omega
    · exfalso; apply hs2; rw [sealN_length]; simp [sealN]
    · have hle : ys.length = xs.length := by have := congrArg List.length hbs; rw [sealN_length, sealN_length] at this; omega
      have : ys = xs := by
        have := congrArg (List.take xs.length) hbs
        unfold sealN at this
        rw [List.take_left' rfl, List.take_left' hle] at this
        exact this.symm
      subst this
      exact ⟨b1, A1, c1, rfl, o1⟩
  obtain ⟨k, hk⟩ : ∃ k, k = xs.length := ⟨_, rfl⟩
  rw [← hk] at k135
  have HK := Lib.hid k135
  have HN := Lib.hid (And.intro hn (And.intro hk (And.intro hl h256)))
  clear hr hhi hl hc h256 k135 h1 h2 h8 h01 h02 hn hk
  go_enter Tryd.func80, Tryd.ntmps80
  go_upto_region 1 with (fail)
  refine wp_letter (fun W => Below w.heap.size w W ∧ Blk W w.heap.size 143 zRow) ⟨(Below.refl _ _).alloc (Nat.le_refl _) _, Blk.new w 143 _⟩ ?_
  rintro W ⟨hb, hX⟩
  obtain ⟨x, hx⟩ : ∃ x, x = w.heap.size := ⟨_, rfl⟩
  rw [← hx] at hX ⊢
  have HK1 := Lib.hid (HK.out W hb)
  have H1 := Lib.hid (And.intro hb (And.intro hX hx))
  have hxl := hX.lt
  clear HK hb hX hx
  go_upto_region 4 with (first | (go_at_call 135; refine HK1.out.mono ?_; rintro e w1 ⟨b1, A1, c1, rfl, o1⟩; have H2 := Lib.hid (And.intro b1 o1); clear b1 o1) | fail)
  have k107 : Calls Tryd.prog 107 #[.slice A1 k c1] w1 fun e w' => ∃ g : Nat, e = .returned (.pointer (some ⟨g, 0, none⟩)) ∧ RdrAt w' w1.heap.size g xs 0 ∧ Below w1.heap.size w1 w' := by
    have o1 := H2.out.2
    have hA1 : A1 = none → c1 = 0 := fun hA => by
      subst hA
      rcases o1.2 with ⟨q1, _⟩ | ⟨_, _, _, q1, _⟩
      · injection q1
      · injection q1 with q1
        cases q1
    have hkx := HN.out.2.1
    have hll := HN.out.2.2.1
    rw [HN.out.1, sealN_length] at hll
    rw [hkx] at o1 ⊢
    exact newReader_opt w1 A1 c1 xs (by omega) (fun z hz => HN.out.2.2.2 z (List.mem_append_left _ hz)) ((Rd.of_own o1 (fun g hg => (o1.lt g hg).2)).wider (Nat.zero_le _) (Nat.le_refl _)) hA1
  have HK2 := Lib.hid k107
  clear k107
  go_upto_region 5 with (first | (go_at_call 107; refine HK2.out.mono ?_; rintro e w2 ⟨g, rfl, R2, b2⟩; have H3 := Lib.hid (And.intro R2 b2); clear R2 b2) | fail)
  go_upto_region 6 with (fail)
  have hgw : w1.heap.size ≤ g := H3.out.1.1
  have hg2 : g < w2.heap.size := H3.out.1.lt
  have hxw1 : x < w1.heap.size := Nat.lt_of_lt_of_le hxl H2.out.1.size
  have b02 : Below w.heap.size w w2 := H1.out.1.trans ((H2.out.1.mono H1.out.1.size).trans (H3.out.2.mono (Nat.le_trans H1.out.1.size H2.out.1.size)))
  have hR0 : Rem w2 w1.heap.size g xs := ⟨xs, 0, H3.out.1, by simp⟩
  refine wp_letter (fun W3 => GetInv w w1.heap.size g x w2.heap.size xs 0 [] xs W3)
    ⟨b02.alloc (Nat.le_of_lt (Nat.lt_of_le_of_lt (Nat.le_trans (Nat.le_trans H1.out.1.size H2.out.1.size) hgw) hg2)) _, ((H1.out.2.1.below H2.out.1 hxl).below H3.out.2 hxw1).alloc _, (Blk.new w2 224 (row14 []) : Blk _ _ _ _), hR0.alloc _, rfl, rfl,
      ⟨by have := H1.out.2.2; omega, by have := b02.size; omega, by have := H1.out.1.size; have := H2.out.1.size; omega⟩, ⟨by omega, by omega, by omega⟩⟩ ?_
  rintro W3 hI
  obtain ⟨y, hy⟩ : ∃ y, y = w2.heap.size := ⟨_, rfl⟩
  rw [← hy] at hI ⊢
  have HI := Lib.hid hI
  have HS := Lib.hid (And.intro hgw (And.intro hg2 (And.intro hxw1 hy)))
  have HLO := Lib.hid (And.intro HI.out.low.1 (And.intro (show 2 < x by have := HI.out.low.1; have h8' : 8 < w.heap.size := h08; omega) trivial))
  clear hI hR0 b02 hgw hg2 hxw1 hy hxl h08
  go_upto_region 7 with (fail)
  go_loopw [24] (fun i wr => ∃ (j : Nat), j ≤ 14 ∧ i = .int .i64 j ∧ ∃ ns R, GetInv w w1.heap.size g x y xs j ns R wr) (fun i _ => 14 - (intOf i).toNat)
  case atStart => exact ⟨0, by omega, rfl, [], xs, HI.out⟩
  case round =>
    obtain ⟨j, hj, rfl, ns, R, hI⟩ := hrel
    by_cases hlt : j < 14
    · have hj1 : (j : Int) < 14 := by omega
      have k136 : Calls Tryd.prog 136 #[.pointer (some ⟨g, 0, none⟩), .int .i64 1099511627776] wr fun e w' => ∃ z ev, e = .returned (.tuple #[.int .i64 z, ev]) ∧ Blk w' y 224 (row14 ns) ∧ Blk w' x 143 zRow ∧ Below w.heap.size w w' ∧
          ((pNum R = none ∧ ev = errv a2) ∨ (∃ m R', pNum R = some (m, R') ∧ z = m ∧ ev = .nilIface ∧ Rem w' w1.heap.size g R')) := by
        refine (num136_any wr w1.heap.size g R hI.rem a2 (HG.out wr hI.bel).2.1).mono ?_
        rintro e w' (⟨h1, rfl, b⟩ | ⟨m, R', h1, h2, rfl, h3, f⟩)
        · exact ⟨_, _, rfl, hI.hy.below b hI.hy.lt, hI.hx.below b hI.hx.lt, hI.bel.trans (b.mono hI.bel.size), .inl ⟨h1, rfl⟩⟩
        · have hb : Below w.heap.size w w' := ((Fr.of_below hI.bel (fun _ => False)).trans (f.mono hI.bel.size (S' := fun _ => False) (fun k hk he => by have := hI.low.2.2; omega))).below (fun _ _ h => h)
          exact ⟨_, _, rfl, hI.hy.fr f hI.hy.lt hI.ne.2.2, hI.hx.fr f hI.hx.lt hI.ne.2.1, hb, .inr ⟨m, R', h1, rfl, rfl, h3⟩⟩
      have HK3 := Lib.hid k136
      have hget := row14_get hI.len hlt
      have HGT := Lib.hid (And.intro hget (And.intro hI.par (And.intro hI.len (And.intro hI.ne hI.low))))
      clear k136 hI hj hget
      go_upto_region 10 with (first
        | (go_at_call 136
           refine HK3.out.mono ?_
           rintro e w4 ⟨z, ev, rfl, hy4, hx4, b4, hw4⟩
           have cy := (hy4.cell j).trans HGT.out.1
           have fy := hy4.frozen j
           have H4 := Lib.hid (And.intro hy4 (And.intro hx4 (And.intro b4 hw4)))
           clear hy4 hx4 b4 hw4)
        | fail)
      have hS5 : Blk (w4.setCell ⟨y, j, none⟩ (.int .i64 z)) y 224 (row14 (ns ++ [z])) := by
        have h := H4.out.1.set_ j (.int .i64 z)
        have e := row14_set z (ns := ns) (by have := HGT.out.2.2.1; omega)
        rw [HGT.out.2.2.1] at e
        rwa [e] at h
      refine wp_letter (fun W => Blk W y 224 (row14 (ns ++ [z])) ∧ Blk W x 143 zRow ∧ Below w.heap.size w W ∧ ((pNum R = none ∧ ev = errv a2) ∨ (∃ m R', pNum R = some (m, R') ∧ z = m ∧ ev = .nilIface ∧ Rem W w1.heap.size g R')))
        ⟨hS5, H4.out.2.1.far (p := ⟨y, j, none⟩) HGT.out.2.2.2.1.1 _, H4.out.2.2.1.setCell (p := ⟨y, j, none⟩) HGT.out.2.2.2.2.2.1 _, by
          rcases H4.out.2.2.2 with h | ⟨m, R', q1, q2, q3, q4⟩
          · exact .inl h
          · exact .inr ⟨m, R', q1, q2, q3, q4.far H4.out.1 (by decide) HGT.out.2.2.2.1.2.2.symm _ _⟩⟩ ?_
      clear hS5 cy fy H4
      rintro W5 ⟨hy5, hx5, b5, ⟨p1, rfl⟩ | ⟨m, R', p1, rfl, rfl, r5⟩⟩
      · have hp := pans_none (pMsg_none1 (pNums_stop HGT.out.2.1 p1 hlt))
        have HXX := Lib.hid (And.intro hx5 (And.intro b5 hp))
        clear hy5 hx5 b5 p1 hp
        go_wp2_with (first
          | ((with_reducible refine is_store 143 (.tmp 2) (.tmp 36) ?_)
             refine law_store_row 143 (.tmp 2) (.tmp 36) x 143 zRow zRow HXX.out.1 (by rfl) (by rfl) msg_info (by rfl) zRow_one ?_
             intro W6 hx6 f6 s6
             have H6X := Lib.hid (And.intro hx6 f6)
             clear hx6 f6 s6)
          | fail)
        have hwx := HLO.out.1
        have hfin : Below w.heap.size w W6 := ((Fr.of_below HXX.out.2.1 (fun _ => False)).trans (H6X.out.2.mono HXX.out.2.1.size (S' := fun _ => False) (fun q hq he => by omega))).below (fun _ _ h => h)
        exact bodyPost_ret (v := .tuple #[.agg zRow, errv a2]) (res80 _ x zList _ W6 rfl H6X.out.1 rfl rfl) rfl (pget_refuse _ HXX.out.2.2 rfl hfin)
      · have HR := Lib.hid (show GetInv w w1.heap.size g x y xs (j + 1) (ns ++ [(m : Int)]) R' W5 from
          ⟨b5, hx5, hy5, r5, pNums_snoc HGT.out.2.1 p1, by rw [List.length_append]; have := HGT.out.2.2.1; simp; omega, HGT.out.2.2.2.2, HGT.out.2.2.2.1⟩)
        clear hy5 hx5 b5 r5
        go_wp2_with (fail)
        go_roundw
        case rel => exact ⟨j + 1, by omega, by go_num, ns ++ [(m : Int)], R', HR.out⟩
        case measure => simp [intOf]; omega
    · have hj14 : j = 14 := by omega
      subst hj14
      have hx256 : ∀ z ∈ xs, z < 256 := fun z hz => HN.out.2.2.2 z (List.mem_append_left _ hz)
      obtain ⟨q1, q2, q3, q4⟩ := pNums_inv hx256 hI.par
      have hRk : R.length ≤ k := by have := congrArg List.length q1; rw [List.length_append] at this; have := HN.out.2.1; omega
      have hkl : k + 4 ≤ 140737488351232 := by have := HN.out.2.2.1; rw [HN.out.1, sealN_length] at this; have := HN.out.2.1; omega
      have k137 : Calls Tryd.prog 137 #[.pointer (some ⟨g, 0, none⟩), .int .i64 k] wr fun e w' => ∃ v ev, e = .returned (.tuple #[v, ev]) ∧ Blk w' y 224 (row14 ns) ∧ Blk w' x 143 zRow ∧ Below w.heap.size w w' ∧
          ((pPiece R = none ∧ v = .slice none 0 0 ∧ ev = errv a2) ∨ (∃ lb R2 A c, pPiece R = some (lb, R2) ∧ v = .slice A lb.length c ∧ ev = .nilIface ∧ OwnB w' wr.heap.size (.slice A lb.length c) lb ∧ Rem w' w1.heap.size g R2)) := by
        refine (bytes137_any wr w1.heap.size g k R (by omega) hI.rem a2 (HG.out wr hI.bel).2.1).mono ?_
        rintro e w' (⟨h1, rfl, b⟩ | ⟨lb, R2, A, c, h1, rfl, ho, hr, f⟩)
        · rw [pBytes_piece q4 hRk] at h1
          exact ⟨_, _, rfl, hI.hy.below b hI.hy.lt, hI.hx.below b hI.hx.lt, hI.bel.trans (b.mono hI.bel.size), .inl ⟨h1, rfl, rfl⟩⟩
        · rw [pBytes_piece q4 hRk] at h1
          have hb : Below w.heap.size w w' := ((Fr.of_below hI.bel (fun _ => False)).trans (f.mono hI.bel.size (S' := fun _ => False) (fun k hk he => by have := hI.low.2.2; omega))).below (fun _ _ h => h)
          exact ⟨_, _, rfl, hI.hy.fr f hI.hy.lt hI.ne.2.2, hI.hx.fr f hI.hx.lt hI.ne.2.1, hb, .inr ⟨lb, R2, A, c, h1, rfl, rfl, ho, hr⟩⟩
      obtain ⟨n0, n1, n2, n3, n4, n5, n6, n7, n8, n9, n10, n11, n12, n13, rfl⟩ := list14 hI.len
      have HK4 := Lib.hid k137
      have HP := Lib.hid (And.intro hI.par (And.intro q4 (And.intro hRk (And.intro hkl (And.intro hI.ne hI.low)))))
      clear k137 hI q1 q2 q3 q4 hRk hkl hj hlt hx256
      go_upto_region 14 with (first
        | (go_at_call 137
           refine HK4.out.mono ?_
           rintro e w4 ⟨v4, ev4, rfl, hy4, hx4, b4, hw4⟩
           have H4 := Lib.hid (And.intro hy4 (And.intro hx4 (And.intro b4 hw4)))
           clear hy4 hx4 b4 hw4)
        | fail)
      rcases H4.out.2.2.2 with ⟨p1, rfl, rfl⟩ | ⟨lb, R2, A4, c4, p1, rfl, rfl, o4, r4⟩
      · have hp := pans_none (pMsg_none2 HP.out.1 p1)
        have hx4 := H4.out.2.1
        have b4 := H4.out.2.2.1
        have HXX := Lib.hid (And.intro hx4 (And.intro b4 hp))
        clear hx4 b4 hp p1
        go_wp2_with (first
          | ((with_reducible refine is_store 143 (.tmp 2) (.tmp 48) ?_)
             refine law_store_row 143 (.tmp 2) (.tmp 48) x 143 zRow zRow HXX.out.1 (by rfl) (by rfl) msg_info (by rfl) zRow_one ?_
             intro W6 hx6 f6 s6
             have H6X := Lib.hid (And.intro hx6 f6)
             clear hx6 f6 s6)
          | fail)
        have hwx := HLO.out.1
        have hfin : Below w.heap.size w W6 := ((Fr.of_below HXX.out.2.1 (fun _ => False)).trans (H6X.out.2.mono HXX.out.2.1.size (S' := fun _ => False) (fun q hq he => by omega))).below (fun _ _ h => h)
        exact bodyPost_ret (v := .tuple #[.agg zRow, errv a2]) (res80 _ x zList _ W6 rfl H6X.out.1 rfl rfl) rfl (pget_refuse _ HXX.out.2.2 rfl hfin)
      · obtain ⟨t1, t2, t3⟩ := pPiece_inv HP.out.2.1 p1
        have hlb : lb.length ≤ k := by have e := congrArg List.length t1; rw [List.length_append, List.length_append] at e; have := HP.out.2.2.1; omega
        have k72 := (wread_any w4 w4.heap.size c4 A4 lb (own_rd o4) (Nat.le_refl _) (by have := HP.out.2.2.2.1; omega) (own_cap o4) t2 a1 a2 a8 (HG.out w4 H4.out.2.2.1).1 (HG.out w4 H4.out.2.2.1).2.1 (HG.out w4 H4.out.2.2.1).2.2.1).mono (fun e w' h => h.flat)
        obtain ⟨ev, hev⟩ : ∃ ev, ev = rerr a2 a8 (rans lb).1 := ⟨_, rfl⟩
        rw [← hev] at k72
        have HK5 := Lib.hid k72
        have HE := Lib.hid (And.intro hev (And.intro p1 (And.intro t2 (And.intro t3 (r4 : Rem w4 w1.heap.size g R2)))))
        obtain ⟨nl, hnl⟩ : ∃ nl, nl = lb.length := ⟨_, rfl⟩
        rw [← hnl] at HK5 ⊢
        clear k72 hev p1 t1 t2 t3 o4 r4 hlb hnl
        go_upto_region 17 with (first
          | (go_at_call 72
             refine HK5.out.mono ?_
             rintro e w5 ⟨v5, rfl, o5, b5⟩
             have H5 := Lib.hid (And.intro o5 b5)
             clear o5 b5)
          | fail)
        have B5 := Lib.hid (H4.out.2.2.1.trans (H5.out.2.mono H4.out.2.2.1.size))
        have X5 := Lib.hid (And.intro (H4.out.2.1.below H5.out.2 H4.out.2.1.lt) (H4.out.1.below H5.out.2 H4.out.1.lt))
        by_cases h0 : (rans lb).1 = 0
        · obtain rfl : ev = .nilIface := by rw [HE.out.1, h0]; rfl
          have k137 : Calls Tryd.prog 137 #[.pointer (some ⟨g, 0, none⟩), .int .i64 4096] w5 fun e w' => ∃ v ev, e = .returned (.tuple #[v, ev]) ∧ Blk w' y 224 (row14 [n0, n1, n2, n3, n4, n5, n6, n7, n8, n9, n10, n11, n12, n13]) ∧ Blk w' x 143 zRow ∧ Below w.heap.size w w' ∧ OwnLed w' w4.heap.size w'.heap.size v5 (rans lb).2 ∧
              ((pBytes 4096 R2 = none ∧ v = .slice none 0 0 ∧ ev = errv a2) ∨ (∃ f R3 A c, pBytes 4096 R2 = some (f, R3) ∧ v = .slice A f.length c ∧ ev = .nilIface ∧ OwnB w' w5.heap.size (.slice A f.length c) f ∧ Rem w' w1.heap.size g R3)) := by
            have r5 := HE.out.2.2.2.2.below H5.out.2 (Nat.le_refl _)
            have hgl := HE.out.2.2.2.2.lt
            refine (bytes137_any w5 w1.heap.size g 4096 R2 (by decide) r5 a2 (HG.out w5 B5.out).2.1).mono ?_
            rintro e w' (⟨h1, rfl, b⟩ | ⟨f, R3, A, c, h1, rfl, ho, hr, fr⟩)
            · exact ⟨_, _, rfl, X5.out.2.below b X5.out.2.lt, X5.out.1.below b X5.out.1.lt, B5.out.trans (b.mono B5.out.size), (H5.out.1.fr (Fr.of_below b (fun _ => False)) (Nat.le_refl _) (fun _ _ _ h => h)).wider (Nat.le_refl _) b.size, .inl ⟨h1, rfl, rfl⟩⟩
            · have hb : Below w.heap.size w w' := ((Fr.of_below B5.out (fun _ => False)).trans (fr.mono B5.out.size (S' := fun _ => False) (fun k hk he => by have := HP.out.2.2.2.2.2.2.2; omega))).below (fun _ _ h => h)
              exact ⟨_, _, rfl, X5.out.2.fr fr X5.out.2.lt HP.out.2.2.2.2.1.2.2, X5.out.1.fr fr X5.out.1.lt HP.out.2.2.2.2.1.2.1, hb, (H5.out.1.fr fr (Nat.le_refl _) (fun q h1 _ h => by omega)).wider (Nat.le_refl _) fr.size, .inr ⟨f, R3, A, c, h1, rfl, rfl, ho, hr⟩⟩
          have HK6 := Lib.hid k137
          have HH0 := Lib.hid h0
          clear k137 h0
          go_upto_region 20 with (first
            | (go_at_call 137
               refine HK6.out.mono ?_
               rintro e w6 ⟨v6, ev6, rfl, hy6, hx6, b6, o6, hw6⟩
               have H6 := Lib.hid (And.intro hy6 (And.intro hx6 (And.intro b6 (And.intro o6 hw6))))
               clear hy6 hx6 b6 o6 hw6)
            | fail)
          go_cut [75] (fun v wx => ∃ bad : Bool, v = .bool bad ∧ Below w6.heap.size w6 wx ∧ ((bad = true ∧ pMsg xs = none) ∨ (bad = false ∧ n13 ≤ 1 ∧ ∃ f A c, pBytes 4096 R2 = some (f, []) ∧ v6 = .slice A f.length c ∧ OwnB w6 w5.heap.size (.slice A f.length c) f)))
          case first =>
            rcases H6.out.2.2.2.2 with ⟨p2, hv6, rfl⟩ | ⟨f, R3, A6, c6', p2, hv6, rfl, of6, r6⟩
            · have hp := pMsg_none3 HP.out.1 HE.out.2.1 p2
              have HPP := Lib.hid hp
              clear hp p2 hv6
              go_wp2_with (fail)
              go_meet
              exact ⟨true, rfl, Below.refl _ _, .inl ⟨rfl, HPP.out⟩⟩
            · have k109 := end_any w6 w1.heap.size g R3 r6 a2 (HG.out w6 H6.out.2.2.1).2.1
              have HF6 := Lib.hid (And.intro of6 (And.intro p2 hv6))
              clear of6 r6 p2 hv6
              by_cases hR3 : R3 = []
              · rw [if_pos hR3] at k109
                subst hR3
                have HK7 := Lib.hid k109
                have hY6 : ∀ w7, Below w6.heap.size w6 w7 → w7.cell? ⟨y, 13, none⟩ = some (.int .i64 n13) := fun w7 b => by
                  have := (H6.out.1.below b H6.out.1.lt).cell 13
                  simpa [row14] using this
                have HY6 := Lib.hid hY6
                clear k109 hY6
                by_cases h13 : n13 > 1
                · have HN13 := Lib.hid h13
                  go_wp2_with (first
                    | (go_at_call 109
                       refine HK7.out.mono ?_
                       rintro e w7 ⟨rfl, b7⟩
                       have cY := HY6.out w7 b7
                       have H7 := Lib.hid b7
                       clear b7)
                    | fail)
                  go_meet
                  exact ⟨true, rfl, H7.out, .inl ⟨rfl, pMsg_none4 HP.out.1 HE.out.2.1 HF6.out.2.1 (fun h => absurd h.2.2.1 (Int.not_le.2 HN13.out))⟩⟩
                · have HN13 := Lib.hid (show n13 ≤ 1 by omega)
                  have h13d : ¬ 1 < n13 := h13
                  go_wp2_with (first
                    | (go_at_call 109
                       refine HK7.out.mono ?_
                       rintro e w7 ⟨rfl, b7⟩
                       have cY := HY6.out w7 b7
                       have H7 := Lib.hid b7
                       clear b7)
                    | fail)
                  go_meet
                  exact ⟨false, by simp [h13d], H7.out, .inr ⟨rfl, HN13.out, f, A6, c6', HF6.out.2.1, HF6.out.2.2, HF6.out.1⟩⟩
              · rw [if_neg hR3] at k109
                have HK7 := Lib.hid k109
                have HR3 := Lib.hid hR3
                clear k109 hR3
                go_wp2_with (first
                  | (go_at_call 109
                     refine HK7.out.mono ?_
                     rintro e w7 ⟨rfl, b7⟩
                     have H7 := Lib.hid b7
                     clear b7)
                  | fail)
                go_meet
                exact ⟨true, rfl, H7.out, .inl ⟨rfl, pMsg_none4 HP.out.1 HE.out.2.1 HF6.out.2.1 (fun h => HR3.out h.2.1)⟩⟩
          case rest =>
            obtain ⟨bad, rfl, b7, hb⟩ := hcut
            rcases hb with ⟨rfl, hp0⟩ | ⟨rfl, h13, f, A6, c6', p2, rfl, of6⟩
            · skip
              have hp := pans_none hp0
              have hx7 := H6.out.2.1.below b7 H6.out.2.1.lt
              have hb7 := H6.out.2.2.1.trans (b7.mono H6.out.2.2.1.size)
              go_upto_region 21 with (fail)
              refine get_reg21 _ _ _ _ _ _ _ _ _ _ _ _ _ _ _ _ _ _ _ _ _ _ _ _ _ _ _ _ _ _ _ _ _ _ _ _ _ _ _ _ _ _ _ _ _ _ _ _ _ _ _ _ _ _ _ _ _ _ _ _ _ _ _ _ _ _ _ _ _ _ _ _ _ _ _ _ _ _ _ _ _ _ _ _ _ _ _ _ _ _ _ _ _ _ _ _ _ _ _ _ _ _ _ _ _ _ _ _ _ _ _ _ _ _ _ _ _ _ _ x a2 _ hx7 HLO.out.2.1 (HG.out _ hb7).2.1 ?_
              intro W6 hX6 hb6
              have hfin : Below w.heap.size w W6 := (hb7).trans (hb6 _ HLO.out.1)
              have HXF := Lib.hid (And.intro hfin (And.intro hp hX6))
              clear hX6 hb6 hfin hx7 hb7 hp hp0 b7
              go_wp2_with (fail)
              exact bodyPost_ret (v := .tuple #[.agg zRow, errv a2]) (res80 _ x zList _ W6 rfl HXF.out.2.2 rfl rfl) rfl (pget_refuse _ HXF.out.2.1 rfl HXF.out.1)
            · skip
              have cY : ∀ i : Nat, wc.cell? ⟨y, i, none⟩ = (#[.int .i64 n0, .int .i64 n1, .int .i64 n2, .int .i64 n3, .int .i64 n4, .int .i64 n5, .int .i64 n6, .int .i64 n7, .int .i64 n8, .int .i64 n9, .int .i64 n10, .int .i64 n11, .int .i64 n12, .int .i64 n13] : Array Value)[i]? := fun i => (H6.out.1.below b7 H6.out.1.lt).cell i
              have hb7 := H6.out.2.2.1.trans (b7.mono H6.out.2.2.1.size)
              have hx7 := H6.out.2.1.below b7 H6.out.2.1.lt
              have hlow7 : w.heap.size ≤ w4.heap.size := H4.out.2.2.1.size
              obtain ⟨nf, hnf⟩ : ∃ nf, nf = f.length := ⟨_, rfl⟩
              have hm7 : MsgAt wc w4.heap.size wc.heap.size v5 (.slice A6 nf c6') (msgOf [n0, n1, n2, n3, n4, n5, n6, n7, n8, n9, n10, n11, n12, n13] (rans lb).2 f) := by
                obtain ⟨s1, s2, s3, s4⟩ := rans_good HE.out.2.2.1 HH0.out
                obtain ⟨u1, u2, u3, u4⟩ := pBytes_inv8 HE.out.2.2.2.1 p2
                refine ⟨((H6.out.2.2.2.1.fr (Fr.of_below b7 (fun _ => False)) (Nat.le_refl _) (fun _ _ _ h => h)).wider (Nat.le_refl _) b7.size).at_, ?_, s4, Nat.le_refl _⟩
                subst hnf
                have hw6 : w4.heap.size ≤ w5.heap.size := H5.out.2.size
                refine ⟨A6, c6', rfl, (own_cap of6).1, (own_cap of6).2, own_none of6, by show f.length ≤ _; omega, u3, ?_⟩
                exact ((Rd.of_own of6.2.2 (fun g hg => (of6.2.2.lt g hg).2)).fr (Fr.of_below b7 (fun _ => False)) (Nat.le_refl _) (fun _ _ _ h => h)).wider hw6 b7.size
              obtain ⟨A5, c5, hv5, _⟩ := hm7.led.form
              obtain ⟨nv5, hn5⟩ : ∃ nv5, nv5 = (msgOf [n0, n1, n2, n3, n4, n5, n6, n7, n8, n9, n10, n11, n12, n13] (rans lb).2 f).led.length := ⟨_, rfl⟩
              rw [← hn5] at hv5
              subst hv5
              obtain ⟨m, hm⟩ : ∃ m, m = msgOf [n0, n1, n2, n3, n4, n5, n6, n7, n8, n9, n10, n11, n12, n13] (rans lb).2 f := ⟨_, rfl⟩
              have hcells : (m.cells (.slice A5 nv5 c5) (.slice A6 nf c6')).toArray = #[.int .i64 n0, .int .i64 n1, .int .i64 n2, .int .i64 n3, .int .i64 n4, .int .i64 n5, .int .i64 n6, .int .i64 n7, .int .i64 n8, .int .i64 n9, .slice A5 nv5 c5, .int .i64 n10, .int .i64 n11, .int .i64 n12, .bool (n13 == 1), .slice A6 nf c6'] := by
                have hbq : (n13 == 1) = decide (n13 = 1) := by by_cases h : n13 = 1 <;> simp [h]
                rw [hbq, hm]
                rfl
              rw [← hm] at hm7
              have hone := msg_one hm7
              rw [hcells] at hone
              have HM := Lib.hid (And.intro hm7 (And.intro hcells (And.intro hm hone)))
              have HB7 := Lib.hid (And.intro hb7 (And.intro hx7 (And.intro h13 p2)))
              rw [← hnf]
              clear hn5 hm7 hcells hm hone hb7 hx7 hlow7 b7 h13 p2 of6 hnf
              go_upto_region 22 with (fail)
              refine get_reg22 _ _ _ _ _ _ _ _ _ _ _ _ _ _ _ _ _ _ _ _ _ _ _ _ _ _ _ _ _ _ _ _ _ _ _ _ _ _ _ _ _ _ _ _ _ _ _ _ _ _ _ _ _ _ _ _ _ _ _ _ _ _ _ _ _ _ _ _ _ _ _ _ _ _ _ _ _ _ _ _ _ _ _ _ _ _ _ _ _ _ _ _ _ _ _ _ _ _ _ _ _ _ _ _ _ _ _ _ _ _ _ _ _ _ _ _ _ y A5 A6 nv5 c5 nf c6' n0 n1 n2 n3 n4 n5 n6 n7 n8 n9 n10 n11 n12 n13 _ cY ?_
              intro v78 v79 v80 v81 v82 v83 v84 v85 v86 v87 v88 v89 v90 v91 v92 v93 v94 v95 v96 v97 v98 v99 v100 v101 v102 v103 v104 v105 v106 v107 v108 v109 v110 v111 v112 v113
              clear cY
              go_upto_region 23 with (fail)
              have hX8 := Blk.new wc 143 (m.cells (.slice A5 nv5 c5) (.slice A6 nf c6')).toArray
              rw [HM.out.2.1] at hX8
              have bN : Below wc.heap.size wc (wc.alloc (.cells (m.cells (.slice A5 nv5 c5) (.slice A6 nf c6')).toArray 143)) := (Below.refl wc.heap.size wc).alloc (Nat.le_refl _) _
              rw [HM.out.2.1] at bN
              refine wp_letter (fun W => Blk W wc.heap.size 143 (m.cells (.slice A5 nv5 c5) (.slice A6 nf c6')).toArray ∧ Below wc.heap.size wc W) ⟨by rw [HM.out.2.1]; exact hX8, bN⟩ ?_
              clear hX8 bN
              rintro W8 ⟨hZ8, b8⟩
              obtain ⟨z, hz⟩ : ∃ z, z = wc.heap.size := ⟨_, rfl⟩
              rw [← hz] at hZ8 ⊢
              have hrZ := hZ8.range
              have hm8 := HM.out.1.below b8 (Nat.le_refl _)
              have hb8 := HB7.out.1.trans (b8.mono HB7.out.1.size)
              have hx8 := HB7.out.2.1.below b8 HB7.out.2.1.lt
              have k76 := pcheck_any m W8 w4.heap.size wc.heap.size (.slice A5 nv5 c5) (.slice A6 nf c6') hm8 a1 (HG.out W8 hb8).1
              have HZ8 := Lib.hid (And.intro hZ8 (And.intro b8 (And.intro hm8 (And.intro hb8 (And.intro hx8 hz)))))
              clear b8 hm8 hb8 hx8 hz
              cases hck : chkM m with
              | false =>
                rw [hck] at k76
                have HK8 := Lib.hid k76
                have hp : pans (sealN xs) = (5, zeroMsg) := pans_none (pMsg_none4 HP.out.1 HE.out.2.1 HB7.out.2.2.2 (fun h => by have := h.2.2.2; rw [← HM.out.2.2.1, hck] at this; cases this))
                have HPP := Lib.hid hp
                clear k76 hp hck hZ8
                go_upto_region 24 with (first
                  | ((with_reducible refine law_load 143 (.tmp 12) z 0 (m.cells (.slice A5 nv5 c5) (.slice A6 nf c6')) ?_ hrZ Tryd.underlying143 ?_ ?_ ?_); rfl; rfl; exact msg_info)
                  | (go_at_call 76; refine HK8.out.mono ?_; rintro e w9 ⟨rfl, b9⟩; have H9 := Lib.hid b9; clear b9)
                  | fail)
                have hx9 := HZ8.out.2.2.2.2.1.below H9.out HZ8.out.2.2.2.2.1.lt
                have hb9 := HZ8.out.2.2.2.1.trans (H9.out.mono HZ8.out.2.2.2.1.size)
                have hp := HPP.out
                go_upto_region 24 with (fail)
                refine get_reg24 _ _ _ _ _ _ _ _ _ _ _ _ _ _ _ _ _ _ _ _ _ _ _ _ _ _ _ _ _ _ _ _ _ _ _ _ _ _ _ _ _ _ _ _ _ _ _ _ _ _ _ _ _ _ _ _ _ _ _ _ _ _ _ _ _ _ _ _ _ _ _ _ _ _ _ _ _ _ _ _ _ _ _ _ _ _ _ _ _ _ _ _ _ _ _ _ _ _ _ _ _ _ _ _ _ _ _ _ _ _ _ _ _ _ _ _ _ _ _ x a2 _ hx9 HLO.out.2.1 (HG.out _ hb9).2.1 ?_
                intro W6 hX6 hb6
                have hfin : Below w.heap.size w W6 := (hb9).trans (hb6 _ HLO.out.1)
                have HXF := Lib.hid (And.intro hfin (And.intro hp hX6))
                clear hX6 hb6 hfin hx9 hb9 hp
                go_wp2_with (fail)
                exact bodyPost_ret (v := .tuple #[.agg zRow, errv a2]) (res80 _ x zList _ W6 rfl HXF.out.2.2 rfl rfl) rfl (pget_refuse _ HXF.out.2.1 rfl HXF.out.1)
              | true =>
                rw [hck] at k76
                have HK8 := Lib.hid k76
                have hp : pans (sealN xs) = (0, m) := by
                  rw [HM.out.2.2.1]
                  rw [HM.out.2.2.1] at hck
                  exact pans_some (pMsg_some HP.out.1 HE.out.2.1 HB7.out.2.2.2 HH0.out HB7.out.2.2.1 hck)
                have HPP := Lib.hid hp
                clear k76 hp hck
                go_upto_region 25 with (first
                  | ((with_reducible refine law_load 143 (.tmp 12) z 0 (m.cells (.slice A5 nv5 c5) (.slice A6 nf c6')) ?_ hrZ Tryd.underlying143 ?_ ?_ ?_); rfl; rfl; exact msg_info)
                  | (go_at_call 76; refine HK8.out.mono ?_; rintro e w9 ⟨rfl, b9⟩; have H9 := Lib.hid b9; clear b9)
                  | fail)
                have hx9 := HZ8.out.2.2.2.2.1.below H9.out HZ8.out.2.2.2.2.1.lt
                have hb9 := HZ8.out.2.2.2.1.trans (H9.out.mono HZ8.out.2.2.2.1.size)
                have hm9 := HZ8.out.2.2.1.below H9.out HZ8.out.2.2.1.hi_
                have hrZ9 := (hZ8.below H9.out hZ8.lt).range
                have hone9 := msg_one hm9
                have hxl4 : x < w4.heap.size := H4.out.2.1.lt
                have H9X := Lib.hid (And.intro hx9 (And.intro hb9 (And.intro hm9 (And.intro hone9 hxl4))))
                clear hx9 hb9 hm9 hone9 hxl4 hZ8 hrZ
                go_wp2_with (first
                  | ((with_reducible refine law_load 143 (.tmp 12) z 0 (m.cells (.slice A5 nv5 c5) (.slice A6 nf c6')) ?_ hrZ9 Tryd.underlying143 ?_ ?_ ?_); rfl; rfl; exact msg_info)
                  | ((with_reducible refine is_store 143 (.tmp 2) (.tmp 119) ?_)
                     refine law_store_row 143 (.tmp 2) (.tmp 119) x 143 zRow (m.cells (.slice A5 nv5 c5) (.slice A6 nf c6')).toArray H9X.out.1 rfl rfl msg_info rfl H9X.out.2.2.2.1 ?_
                     intro W6 hx6 f6 s6
                     have H6X := Lib.hid (And.intro hx6 (And.intro f6 s6))
                     clear hx6 f6 s6)
                  | fail)
                have hwx := HLO.out.1
                have hxl4 := H9X.out.2.2.2.2
                have hfin : Below w.heap.size w W6 := ((Fr.of_below H9X.out.2.1 (fun _ => False)).trans (H6X.out.2.1.mono H9X.out.2.1.size (S' := fun _ => False) (fun q hq he => by omega))).below (fun _ _ h => h)
                have hlow7 : w.heap.size ≤ w4.heap.size := H4.out.2.2.1.size
                have hsz := H6X.out.2.2
                have hm6 : MsgAt W6 w.heap.size W6.heap.size (.slice A5 nv5 c5) (.slice A6 nf c6') m :=
                  (H9X.out.2.2.1.fr H6X.out.2.1 H9X.out.2.2.1.hi_ (fun q h1 _ he => by omega)).wider hlow7 (by rw [hsz]; exact H9X.out.2.2.1.hi_) (Nat.le_refl _)
                exact bodyPost_ret (v := .tuple #[.agg (m.cells (.slice A5 nv5 c5) (.slice A6 nf c6')).toArray, .nilIface]) (res80 _ x _ _ W6 rfl H6X.out.1 rfl rfl) rfl ⟨_, _, by rw [HPP.out]; rfl, by rw [HPP.out]; exact hm6, hfin⟩
        · have hp := pans_none (pMsg_bad HP.out.1 HE.out.2.1 h0)
          obtain ⟨b, rfl⟩ : ∃ b, ev = errv b := by
            rw [HE.out.1]
            unfold rerr
            rw [if_neg h0]
            split
            · exact ⟨_, rfl⟩
            · exact ⟨_, rfl⟩
          have hx5 := X5.out.1
          have b5 := B5.out
          go_upto_region 18 with (fail)
          refine get_reg18 _ _ _ _ _ _ _ _ _ _ _ _ _ _ _ _ _ _ _ _ _ _ _ _ _ _ _ _ _ _ _ _ _ _ _ _ _ _ _ _ _ _ _ _ _ _ _ _ _ _ _ _ _ _ _ _ _ _ _ _ _ _ _ _ _ _ _ _ _ _ _ _ _ _ _ _ _ _ _ _ _ _ _ _ _ _ _ _ _ _ _ _ _ _ _ _ _ _ _ _ _ _ _ _ _ _ _ _ _ _ _ _ _ _ _ _ _ _ _ x a2 _ hx5 HLO.out.2.1 (HG.out _ b5).2.1 ?_
          intro W6 hX6 hb6
          have hfin : Below w.heap.size w W6 := (b5).trans (hb6 _ HLO.out.1)
          have HXF := Lib.hid (And.intro hfin (And.intro hp hX6))
          clear hX6 hb6 hfin hx5 b5 hp h0
          go_wp2_with (fail)
          exact bodyPost_ret (v := .tuple #[.agg zRow, errv a2]) (res80 _ x zList _ W6 rfl HXF.out.2.2 rfl rfl) rfl (pget_refuse _ HXF.out.2.1 rfl HXF.out.1)
set_option maxRecDepth 100000 in
set_option maxHeartbeats 1600000 in
theorem pget_shut (w : World) (hi c : Nat) (A : Option Addr) (bs : List Nat) (hr : Rd w 0 hi 1 A bs.length (u8s bs)) (hhi : hi ≤ w.heap.size) (hl : bs.length ≤ 140737488351232) (hc : bs.length ≤ c ∧ c ≤ 9223372036854775807) (h256 : ∀ x ∈ bs, x < 256)
    (a2 a8 : Addr) (h2 : w.cell? ⟨2, 0, none⟩ = some (errv a2)) (h8 : w.cell? ⟨8, 0, none⟩ = some (errv a8)) (hbad : bs.length < 4 ∨ ¬ sealN (bs.take (bs.length - 4)) = bs) : Calls Tryd.prog 80 #[.slice A bs.length c] w (PGetPost bs a2 a8 w) := by
  have h02 := World.block_lt_of_cell? w _ h2
  have h08 := World.block_lt_of_cell? w _ h8
  have k135 : ∀ W, Below w.heap.size w W → Calls Tryd.prog 135 #[.slice A bs.length c] W fun e w' => (∃ b k, e = .returned (.tuple #[.slice none 0 0, errv b]) ∧ pans bs = (k, zeroMsg) ∧ errv b = rerr a2 a8 k) ∧ Below W.heap.size W w' := by
    intro W b
    refine (wopen_any W hi c A bs (hr.fr (Fr.of_below b (fun _ => False)) hhi (fun k _ _ h => h)) (Nat.le_trans hhi b.size) hl hc h256 a2 a8 ((b.cell h02).trans h2) ((b.cell h08).trans h8)).mono ?_
    rintro e w1 ⟨b1, ⟨hs, rfl⟩ | ⟨hs1, hs2, rfl⟩ | ⟨xs, A1, c1, hbs, rfl, o1⟩⟩
    · exact ⟨⟨a2, 5, rfl, pans_few hs, rfl⟩, b1⟩
    · exact ⟨⟨a8, 6, rfl, pans_sum hs1 hs2, rfl⟩, b1⟩
    · exfalso
      rcases hbad with hb | hb
      · rw [hbs, sealN_length] at hb; omega
      · apply hb
        rw [hbs, sealN_length]
        simp [sealN]
  obtain ⟨n, hn⟩ : ∃ n, n = bs.length := ⟨_, rfl⟩
  rw [← hn] at k135 ⊢
  have HK := Lib.hid k135
  clear hr hhi hl hc h256 hbad k135 h2 h8 h02 h08 hn
  go_enter Tryd.func80, Tryd.ntmps80
  go_upto_region 1 with (fail)
  refine wp_letter (fun W => Below w.heap.size w W ∧ Blk W w.heap.size 143 zRow) ⟨(Below.refl _ _).alloc (Nat.le_refl _) _, Blk.new w 143 _⟩ ?_
  rintro W ⟨hb, hX⟩
  obtain ⟨x, hx⟩ : ∃ x, x = w.heap.size := ⟨_, rfl⟩
  rw [← hx] at hX ⊢
  have HK1 := Lib.hid (HK.out W hb)
  have H1 := Lib.hid (And.intro hb (And.intro hX hx))
  clear HK hb hX hx
  go_upto_region 2 with (first | (go_at_call 135; refine HK1.out.mono ?_; rintro e w1 ⟨⟨b, k, rfl, hp, hbk⟩, b1⟩; have H2 := Lib.hid (And.intro b1 (And.intro hp hbk)); clear b1 hp hbk) | fail)
  have HXX := Lib.hid (And.intro (H1.out.2.1.below H2.out.1 H1.out.2.1.lt) (H1.out.1.trans (H2.out.1.mono H1.out.1.size)))
  go_wp2_with (first
    | ((with_reducible refine is_store 143 (.tmp 2) (.tmp 20) ?_)
       refine law_store_row 143 (.tmp 2) (.tmp 20) x 143 zRow zRow HXX.out.1 (by rfl) (by rfl) msg_info (by rfl) zRow_one ?_
       intro W6 hx6 f6 s6
       have H6X := Lib.hid (And.intro hx6 f6)
       clear hx6 f6 s6)
    | fail)
  have hwx := H1.out.2.2
  have hfin : Below w.heap.size w W6 := ((Fr.of_below HXX.out.2 (fun _ => False)).trans (H6X.out.2.mono HXX.out.2.size (S' := fun _ => False) (fun q hq he => by omega))).below (fun _ _ h => h)
  exact bodyPost_ret (v := .tuple #[.agg zRow, errv b]) (res80 _ x zList _ W6 rfl H6X.out.1 rfl rfl) rfl (pget_refuse _ H2.out.2.1 H2.out.2.2 hfin)
theorem pget_any (w : World) (hi c : Nat) (A : Option Addr) (bs : List Nat) (hr : Rd w 0 hi 1 A bs.length (u8s bs)) (hhi : hi ≤ w.heap.size) (hl : bs.length ≤ 140737488351232) (hc : bs.length ≤ c ∧ c ≤ 9223372036854775807) (h256 : ∀ x ∈ bs, x < 256)
    (a1 a2 a8 : Addr) (h1 : w.cell? ⟨1, 0, none⟩ = some (errv a1)) (h2 : w.cell? ⟨2, 0, none⟩ = some (errv a2)) (h8 : w.cell? ⟨8, 0, none⟩ = some (errv a8)) : Calls Tryd.prog 80 #[.slice A bs.length c] w (PGetPost bs a2 a8 w) := by
  by_cases h4 : bs.length < 4
  · exact pget_shut w hi c A bs hr hhi hl hc h256 a2 a8 h2 h8 (.inl h4)
  · by_cases hs : sealN (bs.take (bs.length - 4)) = bs
    · have := pget_open w (bs.take (bs.length - 4)) hi c A bs.length (by rw [hs]) (by rw [hs]; exact hr) hhi hl hc (by rw [hs]; exact h256) a1 a2 a8 h1 h2 h8
      rw [hs] at this
      exact this
    · exact pget_shut w hi c A bs hr hhi hl hc h256 a2 a8 h2 h8 (.inr hs)
end Go.Proofs.YtnlncfjibbdimaaDoor
