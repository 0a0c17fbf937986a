/-
  bollardnum.Apart: the bytes that were read and a frame of the call's own share no memory.
-/
import Derived.Deep.RegionHeld3
import Derived.Deep.MidRow
import Derived.Test.YtnlncfjibbdimaaDoorUPGet
import Derived.Test.YtnlncfjibbdimaaDoorUPWire
import Derived.Test.YtnlncfjibbdimaaDoorUPCheck
import Derived.Test.YtnlncfjibbdimaaDoorURRead
import Derived.Test.YtnlncfjibbdimaaDoorURefWire
import Derived.Test.YtnlncfjibbdimaaDoorUWireX
import Derived.Test.YtnlncfjibbdimaaDoorUSameL
import Derived.Test.YtnlncfjibbdimaaDoorUCheck
import Derived.Test.YtnlncfjibbdimaaDoorUPiece
import Derived.Test.YtnlncfjibbdimaaDoorUKind
import Derived.Test.YtnlncfjibbdimaaDoorULex
import Derived.Test.YtnlncfjibbdimaaDoorUNames5
import Derived.Test.YtnlncfjibbdimaaDoorUBase
import Derived.Test.YtnlncfjibbdimaaDoorULaws
import Derived.Test.YtnlncfjibbdimaaDoorUSameC
import Derived.Test.YtnlncfjibbdimaaDoorURdrA
import Derived.Test.YtnlncfjibbdimaaDoorURdX
import Derived.Test.YtnlncfjibbdimaaDoorUReadX
import Derived.Test.YtnlncfjibbdimaaDoorUGetZ
import Derived.Test.YtnlncfjibbdimaaDoorURdr6
import Derived.Test.YtnlncfjibbdimaaDoorURdr8
import Derived.Test.YtnlncfjibbdimaaDoorUDGet
import Derived.Test.YtnlncfjibbdimaaDoorUInLaw
import Derived.Test.YtnlncfjibbdimaaDoorUInForm
import Derived.Test.YtnlncfjibbdimaaDoorUPInAny
import Derived.Test.YtnlncfjibbdimaaDoorUPInA
import Derived.Test.YtnlncfjibbdimaaDoorULedgersW
import Derived.Test.YtnlncfjibbdimaaDoorUPSame
import Derived.Test.YtnlncfjibbdimaaDoorURPut
import Derived.Test.YtnlncfjibbdimaaDoorUPInB
import Derived.Test.YtnlncfjibbdimaaDoorUPInC
import Derived.Test.YtnlncfjibbdimaaDoorUPInD
import Derived.Test.YtnlncfjibbdimaaDoorUPInE
import Derived.Test.YtnlncfjibbdimaaDoorUPInF
import Derived.Test.YtnlncfjibbdimaaDoorUPInG
import Derived.Test.YtnlncfjibbdimaaDoorUPInH
import Derived.Test.YtnlncfjibbdimaaDoorUPInI
import Derived.Test.YtnlncfjibbdimaaDoorUPInJ
import Derived.Test.YtnlncfjibbdimaaDoorUPInK
import Derived.Test.YtnlncfjibbdimaaDoorUPInL
import Derived.Test.YtnlncfjibbdimaaDoorWGetsW
import Derived.Test.YtnlncfjibbdimaaDoorWRefX
import Derived.Test.YtnlncfjibbdimaaDoorWDGet
import Derived.Test.YtnlncfjibbdimaaDoorWRMGetR
namespace Go.Proofs.YtnlncfjibbdimaaDoor
open Go.RowKit
set_option linter.unusedSimpArgs false
set_option linter.unusedVariables false
/-- What the document's Get answers. -/
def RMGetPost (bs : List Nat) (w : World) (e : Ending) (w' : World) : Prop :=
  ∃ lv fv, e = .returned (.tuple #[.agg ((pans bs).2.cells lv fv).toArray, .int .i64 ((pans bs).1 : Nat)]) ∧ MsgAt w' w.heap.size w'.heap.size lv fv (pans bs).2 ∧ Below w.heap.size w w'
theorem rm_refuse {bs : List Nat} {w w' : World} (k : Nat) (h : pans bs = (k, zeroMsg)) (hB : Below w.heap.size w w') : RMGetPost bs w (.returned (.tuple #[.agg zRow, .int .i64 k])) w' :=
  ⟨.slice none 0 0, .slice none 0 0, by rw [h]; rfl, by rw [h]; exact zero_at _ _ _ (Nat.le_refl _), hB⟩
theorem OwnInts.cells {w : World} {lo hi n c : Nat} {A : Option Addr} {ns : List Int} (h : OwnInts w lo hi (.slice A n c) ns) (h0 : 0 < ns.length) : ∃ b, A = some ⟨b, 0, none⟩ ∧ b < hi ∧ ∀ j u, (ints ns)[j]? = some u → w.cell? ⟨b, j, none⟩ = some u := by
  rcases h.1.1.2 with ⟨_, h1⟩ | ⟨g, cap, cur, hv, hb, hh, _⟩
  · omega
  · have hA : A = some ⟨g, 0, none⟩ := by injection hv
    subst hA
    refine ⟨g, rfl, h.1.2 g rfl, fun j u hu => ?_⟩
    have := h.1.1.cells (g := g) rfl j u hu
    rwa [Addr.add_mid, Nat.zero_add] at this
set_option maxRecDepth 100000 in
theorem res82 (a : Array Value) (x : Nat) (cells : List Value) (v : Value) (W : World) (hl : cells.length = 16) (hX : Blk W x 143 cells.toArray) (h2 : a.getD 2 undef = .pointer (some ⟨x, 0, none⟩)) (h3 : a.getD 3 undef = v) :
    (results Tryd.f82 a).run Tryd.prog W = .ok (.tuple #[.agg cells.toArray, v]) W := by
  have hld := run_loadVar_mid (P := Tryd.prog) W x 0 143 cells _ hX.range Tryd.underlying143 rfl (by rw [hl]; exact msg_info)
  simp at h2 h3
  simp [go_sem] at hld
  simp [results, Tryd.results82, go_sem, hld, h2, h3]
/-- The state of the document's loop: g the reader, x the answer's row. -/
structure RInv (w : World) (lo g x : Nat) (xs : List Nat) (A1 : Option Addr) (c1 q : Nat) (v : Value) (ns : List Int) (W : World) : Prop where
  bel : Below w.heap.size w W
  hx : Blk W x 143 zRow
  rd : DRd W lo g xs A1 c1 q
  its : OwnInts W lo W.heap.size v ns
  par : pNums ns.length xs = some (ns, xs.drop q)
set_option maxRecDepth 100000 in
set_option maxHeartbeats 6400000 in
theorem rmget_any (w : World) (hi c : Nat) (A : Option Addr) (bs : List Nat) (hr : Rd w 0 hi 1 A bs.length (u8s bs)) (hhi : hi ≤ w.heap.size) (hl : bs.length ≤ 140737488351232) (hc : bs.length ≤ c ∧ c ≤ 9223372036854775807) (hA : A = none → c = 0) (h256 : ∀ x ∈ bs, x < 256) :
    Calls Tryd.prog 82 #[.slice A bs.length c] w (RMGetPost bs w) := by
  have k138 : ∀ W, Below w.heap.size w W → Calls Tryd.prog 138 #[.slice A bs.length c] W (ROpenPost bs W) := fun W b =>
    ropen_any W hi c A bs (hr.fr (Fr.of_below b (fun _ => False)) hhi (fun _ _ _ h => h)) (Nat.le_trans hhi b.size) hl hc hA h256
  have HK := Lib.hid k138
  have H := Lib.hid (And.intro hl h256)
  obtain ⟨n, hn⟩ : ∃ n, n = bs.length := ⟨_, rfl⟩
  rw [← hn] at HK ⊢
  have HN := Lib.hid hn
  clear hr hhi hl hc h256 hA k138 hn
  go_enter Tryd.func82, Tryd.ntmps82
  go_upto_region 1 with (fail)
  refine wp_letter (fun W => Below w.heap.size w W ∧ Blk W w.heap.size 143 zRow ∧ w.heap.size < W.heap.size) ⟨(Below.refl _ _).alloc (Nat.le_refl _) _, Blk.new w 143 _, by simp⟩ ?_
  rintro W ⟨hb, hX, hsz⟩
  obtain ⟨x, hx⟩ : ∃ x, x = w.heap.size := ⟨_, rfl⟩
  rw [← hx] at hX ⊢
  have HK1 := Lib.hid (HK.out W hb)
  have H1 := Lib.hid (And.intro hb hX)
  have HLO := Lib.hid (And.intro (show w.heap.size ≤ x from Nat.le_of_eq hx.symm) (show x < W.heap.size by omega))
  clear HK hb hX hx hsz
  go_upto_region 2 with (first | (go_at_call 138; refine HK1.out.mono ?_; rintro e w1 ⟨b1, ⟨hs, rfl⟩ | ⟨hs1, hs2, rfl⟩ | ⟨xs, A1, c1, hbs, rfl, o1⟩⟩) | fail)
  · have hx1 := H1.out.2.below b1 HLO.out.2
    have hb1 := H1.out.1.trans (b1.mono H1.out.1.size)
    have hp := pans_few hs
    have HXX := Lib.hid (And.intro hx1 (And.intro hb1 hp))
    clear hx1 hb1 hp hs b1
    go_wp2_with (first
      | ((with_reducible refine is_store 143 (.tmp 2) (.tmp 23) ?_)
         refine law_store_row 143 (.tmp 2) (.tmp 23) x 143 zRow zRow HXX.out.1 (by rfl) (by rfl) msg_info (by rfl) zRow_one ?_
         intro W6 hx6 f6 s6
         have H6X := Lib.hid (And.intro hx6 f6)
         clear hx6 f6 s6)
      | fail)
    have hwx := HLO.out.1
    have hfin : Below w.heap.size w W6 := ((Fr.of_below HXX.out.2.1 (fun _ => False)).trans (H6X.out.2.mono HXX.out.2.1.size (S' := fun _ => False) (fun q hq he => by omega))).below (fun _ _ h => h)
    exact bodyPost_ret (v := .tuple #[.agg zRow, .int .i64 5]) (res82 _ x zList _ W6 rfl H6X.out.1 rfl rfl) rfl (rm_refuse 5 HXX.out.2.2 hfin)
  · have hx1 := H1.out.2.below b1 HLO.out.2
    have hb1 := H1.out.1.trans (b1.mono H1.out.1.size)
    have hp := pans_sum hs1 hs2
    have HXX := Lib.hid (And.intro hx1 (And.intro hb1 hp))
    clear hx1 hb1 hp hs1 hs2 b1
    go_wp2_with (first
      | ((with_reducible refine is_store 143 (.tmp 2) (.tmp 23) ?_)
         refine law_store_row 143 (.tmp 2) (.tmp 23) x 143 zRow zRow HXX.out.1 (by rfl) (by rfl) msg_info (by rfl) zRow_one ?_
         intro W6 hx6 f6 s6
         have H6X := Lib.hid (And.intro hx6 f6)
         clear hx6 f6 s6)
      | fail)
    have hwx := HLO.out.1
    have hfin : Below w.heap.size w W6 := ((Fr.of_below HXX.out.2.1 (fun _ => False)).trans (H6X.out.2.mono HXX.out.2.1.size (S' := fun _ => False) (fun q hq he => by omega))).below (fun _ _ h => h)
    exact bodyPost_ret (v := .tuple #[.agg zRow, .int .i64 6]) (res82 _ x zList _ W6 rfl H6X.out.1 rfl rfl) rfl (rm_refuse 6 HXX.out.2.2 hfin)
  · have hxl : xs.length + 4 ≤ 140737488351232 := by have := H.out.1; rw [hbs, sealN_length] at this; exact this
    have hx256 : ∀ x ∈ xs, x < 256 := fun x hx => H.out.2 x (by rw [hbs]; exact List.mem_append_left _ hx)
    have hds : DS xs c1 := ⟨by omega, o1.capR, hx256⟩
    have hx1 := H1.out.2.below b1 HLO.out.2
    have hb1 := H1.out.1.trans (b1.mono H1.out.1.size)
    obtain ⟨k, hk⟩ : ∃ k, k = xs.length := ⟨_, rfl⟩
    have HX := Lib.hid (And.intro hbs (And.intro hds (And.intro hk hxl)))
    have HO := Lib.hid (And.intro hx1 (And.intro hb1 (own_rd o1)))
    rw [← hk]
    clear hxl hx256 hds hx1 hb1 o1 hbs b1 hk
    go_upto_region 6 with (fail)
    have hI0 : RInv w w1.heap.size w1.heap.size x xs A1 c1 0 (.slice (some ⟨w1.heap.size + 1, 0, none⟩) 0 0) [] ((w1.alloc (.cells #[.slice A1 k c1, .int .i64 0] 192)).alloc (.cells #[] 3)) := by
      have bA : Below w1.heap.size w1 ((w1.alloc (.cells #[.slice A1 k c1, .int .i64 0] 192)).alloc (.cells #[] 3)) := ((Below.refl w1.heap.size w1).alloc (Nat.le_refl _) _).alloc (by simp) _
      refine ⟨HO.out.2.1.trans (bA.mono HO.out.2.1.size), HO.out.1.below bA HO.out.1.lt, ⟨?_, HO.out.2.2.fr (Fr.of_below bA (fun _ => False)) (Nat.le_refl _) (fun _ _ _ h => h), Nat.le_refl _, Nat.zero_le _⟩, ?_, rfl⟩
      · have := (Blk.new w1 192 #[.slice A1 k c1, .int .i64 0]).alloc (.cells #[] 3)
        rw [HX.out.2.2.1] at this ⊢
        exact this
      · exact ⟨⟨⟨rfl, .inr ⟨w1.heap.size + 1, 0, #[], rfl, by omega, Blk.new1 w1 _ 3 _, Nat.le_refl _, Nat.zero_le _, rfl, rfl⟩⟩, fun g hg => by simp [Value.ownBlock] at hg; subst hg; simp⟩, by simp⟩
    refine wp_letter (fun W => RInv w w1.heap.size w1.heap.size x xs A1 c1 0 (.slice (some ⟨w1.heap.size + 1, 0, none⟩) 0 0) [] W) hI0 ?_
    clear hI0
    rintro W3 hI0
    obtain ⟨g, hg⟩ : ∃ g, g = w1.heap.size := ⟨_, rfl⟩
    rw [← hg] at hI0 ⊢
    have HI0 := Lib.hid hI0
    have HGW := Lib.hid (show w.heap.size ≤ g ∧ x < g from ⟨by rw [hg]; exact HO.out.2.1.size, by rw [hg]; exact HO.out.1.lt⟩)
    clear hI0 hg
    go_loopw [7] (fun out wr => ∃ (j : Nat) (A' : Option Addr) (c' : Nat) (ns : List Int) (q : Nat), j ≤ 14 ∧ out = .slice A' j c' ∧ ns.length = j ∧ RInv w g g x xs A1 c1 q (.slice A' ns.length c') ns wr) (fun out _ => 14 - (match out with | .slice _ k _ => k | _ => 0))
    case atStart => exact ⟨0, _, 0, [], 0, Nat.zero_le _, rfl, rfl, HI0.out⟩
    case round =>
      obtain ⟨j, A', c', ns, q, hj, rfl, hnl, hI⟩ := hrel
      have HJ := Lib.hid (And.intro hI hnl)
      by_cases hlt : (j : Int) < 14
      · have k139 := rNum_any wr g g q c1 1099511627776 A1 xs hI.rd HX.out.2.1 (by omega)
        have HK2 := Lib.hid k139
        clear k139 hI hnl
        go_upto_region 8 with (first | (go_at_call 139; refine HK2.out.mono ?_; rintro e w2 (⟨v, q1, h1, h2, rfl, h4, h5⟩ | ⟨h1, rfl, h4, h5⟩)) | fail)
        · have hb2 : Below w.heap.size w w2 := ((Fr.of_below HJ.out.1.bel (fun _ => False)).trans (h5.mono HJ.out.1.bel.size (S' := fun _ => False) (fun k hk he => by have := HGW.out.1; omega))).below (fun _ _ h => h)
          have hx2 := HJ.out.1.hx.fr h5 HJ.out.1.hx.lt (by have := HGW.out.2; omega)
          have ho2 := OwnInts.wider (OwnInts.frz HJ.out.1.its h5 HJ.out.1.rd.1 (by decide)) (Nat.le_refl _) h5.size
          have H2 := Lib.hid (And.intro hb2 (And.intro hx2 (And.intro ho2 (And.intro h4 (And.intro h1 h2)))))
          have HXL := Lib.hid (show j = ns.length from HJ.out.2.symm)
          have HK1000 := Lib.hid (show ns.length ≤ 1000 by rw [HJ.out.2]; omega)
          have hgw2 : g ≤ w2.heap.size := Nat.le_of_lt h4.1.lt
          have HGW2 := Lib.hid hgw2
          clear hb2 hx2 ho2 h1 h2 h4 h5 hgw2
          go_wp2_with (at_builtin
                       refine law_append3 (.tmp 41) (.tmp 43) g c' j A' ns v rfl HXL.out rfl rfl H2.out.2.2.1 HGW2.out rfl HK1000.out ?_
                       intro A2 c2 W2 o2 p2 p4
                       have hB2 : Below w.heap.size w W2 := (p4 w.heap.size (fun _ => False) w HGW.out.1 (Fr.of_below H2.out.1 _)).below (fun _ _ h => h)
                       have D2 : DRd W2 g g xs A1 c1 q1 := ⟨p2 _ _ _ (by decide) H2.out.2.2.2.1.1, H2.out.2.2.2.1.2.1.fr (p4 g (fun _ => False) w2 (Nat.le_refl _) (Fr.refl _ _ _)) (Nat.le_refl _) (fun _ _ _ h => h), H2.out.2.2.2.1.2.2⟩
                       have H3 := Lib.hid (And.intro hB2 (And.intro (p2 _ _ _ (by decide) H2.out.2.1) (And.intro D2 o2)))
                       clear hB2 D2 o2 p2 p4)
          go_roundw
          case rel => exact ⟨j + 1, A2, c2, ns ++ [(v : Int)], q1, by omega, rfl, by rw [List.length_append, HJ.out.2]; rfl, ⟨H3.out.1, H3.out.2.1, H3.out.2.2.1, by rw [List.length_append, HJ.out.2]; exact H3.out.2.2.2, by
            rw [List.length_append]
            exact pNums_snoc HJ.out.1.par (pNum_of H2.out.2.2.2.2.1 H2.out.2.2.2.2.2)⟩⟩
          case measure => simp; omega
        · have hb2 : Below w.heap.size w w2 := ((Fr.of_below HJ.out.1.bel (fun _ => False)).trans (h5.mono HJ.out.1.bel.size (S' := fun _ => False) (fun k hk he => by have := HGW.out.1; omega))).below (fun _ _ h => h)
          have hx2 := HJ.out.1.hx.fr h5 HJ.out.1.hx.lt (by have := HGW.out.2; omega)
          have hp : pans bs = (5, zeroMsg) := by rw [HX.out.1]; exact pans_none (pMsg_none1 (pNums_stop HJ.out.1.par (pNum_off h1) (by rw [HJ.out.2]; omega)))
          clear h1 h4 h5
          have HXX := Lib.hid (And.intro hx2 (And.intro hb2 hp))
          clear hx2 hb2 hp
          go_wp2_with (first
            | ((with_reducible refine is_store 143 (.tmp 2) (.tmp 39) ?_)
               refine law_store_row 143 (.tmp 2) (.tmp 39) x 143 zRow zRow HXX.out.1 (by rfl) (by rfl) msg_info (by rfl) zRow_one ?_
               intro W6 hx6 f6 s6
               have H6X := Lib.hid (And.intro hx6 f6)
               clear hx6 f6 s6)
            | fail)
          have hwx := HLO.out.1
          have hfin : Below w.heap.size w W6 := ((Fr.of_below HXX.out.2.1 (fun _ => False)).trans (H6X.out.2.mono HXX.out.2.1.size (S' := fun _ => False) (fun q hq he => by omega))).below (fun _ _ h => h)
          exact bodyPost_ret (v := .tuple #[.agg zRow, .int .i64 5]) (res82 _ x zList _ W6 rfl H6X.out.1 rfl rfl) rfl (rm_refuse 5 HXX.out.2.2 hfin)
      · have hj14 : j = 14 := by omega
        subst hj14
        obtain ⟨n0, n1, n2, n3, n4, n5, n6, n7, n8, n9, n10, n11, n12, n13, rfl⟩ := list14 hnl
        have hpar := hI.par
        obtain ⟨q1, q2, q3, q4⟩ := pNums_inv HX.out.2.1.h256 hpar
        have hRk : (xs.drop q).length ≤ k := by rw [List.length_drop]; have := HX.out.2.2.1; omega
        have k113 := rBytes_any wr g g q c1 k A1 xs hI.rd HX.out.2.1 (by have := HX.out; omega)
        have HK3 := Lib.hid k113
        have HP := Lib.hid (And.intro (show pNums 14 xs = some ([n0, n1, n2, n3, n4, n5, n6, n7, n8, n9, n10, n11, n12, n13], xs.drop q) from hpar) (And.intro q4 hRk))
        have HNE := Lib.hid (show x ≠ g by have := HGW.out.2; omega)
        clear k113 hpar q1 q2 q3 q4 hRk hI hnl hj hlt
        have HBel : Hid (∀ w2, Fr wr.heap.size (fun k => k = g) wr w2 → Below w.heap.size w w2 ∧ Blk w2 x 143 zRow ∧ OwnInts w2 g w2.heap.size (.slice A' 14 c') [n0, n1, n2, n3, n4, n5, n6, n7, n8, n9, n10, n11, n12, n13]) := Lib.hid (fun w2 h5 =>
          ⟨((Fr.of_below HJ.out.1.bel (fun _ => False)).trans (h5.mono HJ.out.1.bel.size (S' := fun _ => False) (fun k hk he => by have := HGW.out.1; omega))).below (fun _ _ h => h), HJ.out.1.hx.fr h5 HJ.out.1.hx.lt HNE.out,
            OwnInts.wider (OwnInts.frz HJ.out.1.its h5 HJ.out.1.rd.1 (by decide)) (Nat.le_refl _) h5.size⟩)
        go_upto_region 12 with (first | (go_at_call 113; refine HK3.out.mono ?_; rintro e w2 (⟨lb, q2, A2, c2, p2, rfl, o2, D2, f2⟩ | ⟨p2, rfl, D2, f2⟩)) | fail)
        · rw [pBytes_piece HP.out.2.1 HP.out.2.2] at p2
          obtain ⟨t1, t2, t3⟩ := pPiece_inv HP.out.2.1 p2
          have hlb : lb.length ≤ k := by have e := congrArg List.length t1; rw [List.length_append, List.length_append] at e; have := HP.out.2.2; omega
          have k113 := rBytes_any w2 g g q2 c1 4096 A1 xs D2 HX.out.2.1 (by decide)
          have HK4 := Lib.hid k113
          have H2 := Lib.hid (And.intro (HBel.out w2 f2) (And.intro o2 (And.intro f2 (And.intro p2 (And.intro t2 (And.intro t3 hlb))))))
          have HD2 := Lib.hid D2
          obtain ⟨nl, hnl⟩ : ∃ nl, nl = lb.length := ⟨_, rfl⟩
          have HNL := Lib.hid hnl
          rw [← hnl]
          clear k113 p2 o2 D2 f2 t1 t2 t3 hlb hnl
          go_upto_region 13 with (first | (go_at_call 113; refine HK4.out.mono ?_; rintro e w3 (⟨f, q3, A3, c3, p3, rfl, o3, D3, f3⟩ | ⟨p3, rfl, D3, f3⟩)) | fail)
          · have h3 := HBel.out w3 (H2.out.2.2.1.trans (f3.mono H2.out.2.2.1.size (fun _ _ h => h)))
            have ho2 := OwnB.frz H2.out.2.1 f3 HD2.out.1 (by decide)
            have H3 := Lib.hid (And.intro h3 (And.intro o3 (And.intro D3 (And.intro p3 ho2))))
            have HS23 := Lib.hid f3.size
            have cg := D3.1.cell 1
            have hq3 : q3 ≤ k := by have := D3.2.2.2; have := HX.out.2.2.1; omega
            obtain ⟨nf, hnf⟩ : ∃ nf, nf = f.length := ⟨_, rfl⟩
            have HNF := Lib.hid hnf
            rw [← hnf]
            clear h3 o3 D3 p3 f3 hnf ho2
            obtain ⟨b, rfl, hbl, hcb⟩ := H3.out.1.2.2.cells (by simp)
            have c13 := hcb 13 _ rfl
            have HCB := Lib.hid hcb
            clear hcb
            by_cases hqk : q3 = k
            · subst hqk
              have hdrop : xs.drop q3 = [] := by rw [HX.out.2.2.1, List.drop_length]
              by_cases h13 : n13 > 1
              · have HN13 := Lib.hid (show ¬ n13 ≤ 1 by omega)
                have hp : pans bs = (5, zeroMsg) := by rw [HX.out.1]; exact pans_none (pMsg_none4 HP.out.1 H2.out.2.2.2.1 H3.out.2.2.2.1 (fun h => HN13.out h.2.2.1))
                have hx3 := H3.out.1.2.1
                have hb3 := H3.out.1.1
                have HXX := Lib.hid (And.intro hx3 (And.intro hb3 hp))
                clear hx3 hb3 hp
                go_wp2_with (first
                  | ((with_reducible refine is_store 143 (.tmp 2) (.tmp 76) ?_)
                     refine law_store_row 143 (.tmp 2) (.tmp 76) x 143 zRow zRow HXX.out.1 (by rfl) (by rfl) msg_info (by rfl) zRow_one ?_
                     intro W6 hx6 f6 s6
                     have H6X := Lib.hid (And.intro hx6 f6)
                     clear hx6 f6 s6)
                  | fail)
                have hwx := HLO.out.1
                have hfin : Below w.heap.size w W6 := ((Fr.of_below HXX.out.2.1 (fun _ => False)).trans (H6X.out.2.mono HXX.out.2.1.size (S' := fun _ => False) (fun q hq he => by omega))).below (fun _ _ h => h)
                exact bodyPost_ret (v := .tuple #[.agg zRow, .int .i64 5]) (res82 _ x zList _ W6 rfl H6X.out.1 rfl rfl) rfl (rm_refuse 5 HXX.out.2.2 hfin)
              · have HDR := Lib.hid (And.intro hdrop h13)
                have k73 := (rreadL_any w3 w3.heap.size c2 A2 lb (own_rd H3.out.2.2.2.2) (Nat.le_refl _) (by have := H2.out.2.2.2.2.2.2; have := HX.out; omega) H3.out.2.2.2.2.capR (ownA8 H3.out.2.2.2.2) H2.out.2.2.2.2.1).mono (fun e w' h => h.flat)
                rw [← HNL.out] at k73
                have HK5 := Lib.hid k73
                clear k73 hdrop
                go_upto_region 16 with (first
                  | (go_at_call 73
                     refine HK5.out.mono ?_
                     rintro e w4 ⟨v4, rfl, o4, b4⟩
                     have H4 := Lib.hid (And.intro o4 b4)
                     clear o4 b4)
                  | fail)
                have hcY : ∀ i : Nat, i < 14 → w4.cell? ⟨b, i, none⟩ = (#[.int .i64 n0, .int .i64 n1, .int .i64 n2, .int .i64 n3, .int .i64 n4, .int .i64 n5, .int .i64 n6, .int .i64 n7, .int .i64 n8, .int .i64 n9, .int .i64 n10, .int .i64 n11, .int .i64 n12, .int .i64 n13] : Array Value)[i]? := fun i hi => by
                  obtain ⟨u, hu⟩ : ∃ u, (ints [n0, n1, n2, n3, n4, n5, n6, n7, n8, n9, n10, n11, n12, n13])[i]? = some u := ⟨_, List.getElem?_eq_getElem (by simpa [ints] using hi)⟩
                  rw [(H4.out.2.cell (p := ⟨b, i, none⟩) hbl).trans (HCB.out i u hu), ← hu]
                  simp [ints]
                have hb4 : b < w4.heap.size := Nat.lt_of_lt_of_le hbl H4.out.2.size
                obtain ⟨A5, c5, hv5, _⟩ := H4.out.1.at_.form
                obtain ⟨nv5, hnv⟩ : ∃ nv5, nv5 = (rans lb).2.length := ⟨_, rfl⟩
                rw [← hnv] at hv5
                subst hv5
                obtain ⟨kE, hkE⟩ : ∃ kE, kE = (rans lb).1 := ⟨_, rfl⟩
                rw [← hkE]
                have HKE := Lib.hid hkE
                clear hnv cg c13 hq3 hkE
                go_upto_region 16 with (fail)
                refine rm_reg16 _ _ _ _ _ _ _ _ _ _ _ _ _ _ _ _ _ _ _ _ _ _ _ _ _ _ _ _ _ _ _ _ _ _ _ _ _ _ _ _ _ _ _ _ _ _ _ _ _ _ _ _ _ _ _ _ _ _ _ _ _ _ _ _ _ _ _ _ _ _ _ _ _ _ _ _ _ _ _ _ _ _ _ _ _ _ _ _ _ _ _ _ _ _ _ _ _ _ _ _ _ _ _ _ _ _ _ _ _ _ _ _ _ _ _ _ _ _ _ _ _ _ _ _ _ _ _ _ _ _ _ _ _ _ _ _ _ _ b c' A5 A3 nv5 c5 nf c3 n0 n1 n2 n3 n4 n5 n6 n7 n8 n9 n10 n11 n12 n13 _ hb4 hcY ?_
                intro v82 v83 v84 v85 v86 v87 v88 v89 v90 v91 v92 v93 v94 v95 v96 v97 v98 v99 v100 v101 v102 v103 v104 v105 v106 v107 v108 v109 v110 v111 v112 v113 v114 v115 v116 v117 v118 v119 v120 v121 v122 v123 v124 v125 v126 v127 v128 v129 v130 v131 W5 hZ5 b5
                clear hcY hb4
                go_upto_region 17 with (fail)
                have b45 := H4.out.2.trans (b5.mono H4.out.2.size)
                have hb5 : Below w.heap.size w W5 := H3.out.1.1.trans (b45.mono H3.out.1.1.size)
                have hx5 := H3.out.1.2.1.below b45 H3.out.1.2.1.lt
                have HB5 := Lib.hid (And.intro hb5 (And.intro hx5 (And.intro b5 hZ5)))
                clear b45 hb5 hx5 b5
                by_cases h0 : kE = 0
                · subst h0
                  obtain ⟨m, hm⟩ : ∃ m, m = msgOf [n0, n1, n2, n3, n4, n5, n6, n7, n8, n9, n10, n11, n12, n13] (rans lb).2 f := ⟨_, rfl⟩
                  have hcells : (m.cells (.slice A5 nv5 c5) (.slice A3 nf c3)).toArray = #[.int .i64 n0, .int .i64 n1, .int .i64 n2, .int .i64 n3, .int .i64 n4, .int .i64 n5, .int .i64 n6, .int .i64 n7, .int .i64 n8, .int .i64 n9, .slice A5 nv5 c5, .int .i64 n10, .int .i64 n11, .int .i64 n12, .bool (n13 == 1), .slice A3 nf c3] := by
                    have hbq : (n13 == 1) = decide (n13 = 1) := by by_cases h : n13 = 1 <;> simp [h]
                    rw [hbq, hm]
                    rfl
                  have hm5 : MsgAt W5 w2.heap.size W5.heap.size (.slice A5 nv5 c5) (.slice A3 nf c3) m := by
                    rw [hm]
                    obtain ⟨s1, s2, s3, s4⟩ := rans_good H2.out.2.2.2.2.1 HKE.out.symm
                    obtain ⟨u1, u2, u3, u4⟩ := pBytes_inv8 H2.out.2.2.2.2.2.1 H3.out.2.2.2.1
                    have h23 : w2.heap.size ≤ w3.heap.size := HS23.out
                    refine ⟨((H4.out.1.fr (Fr.of_below HB5.out.2.2.1 (fun _ => False)) (Nat.le_refl _) (fun _ _ _ h => h)).wider h23 HB5.out.2.2.1.size).at_, ?_, s4, Nat.le_refl _⟩
                    have o3 := H3.out.2.1
                    have b35 := H4.out.2.trans (HB5.out.2.2.1.mono H4.out.2.size)
                    refine ⟨A3, c3, by rw [HNF.out]; rfl, o3.capR.1, o3.capR.2, ownA8 o3, by show f.length ≤ _; omega, u3, ?_⟩
                    exact ((Rd.of_own o3.2.2 (fun g hg => (o3.2.2.lt g hg).2)).fr (Fr.of_below b35 (fun _ => False)) (Nat.le_refl _) (fun _ _ _ h => h)).wider (Nat.le_refl _) b35.size
                  have k79 := pin_any m W5 w2.heap.size W5.heap.size (.slice A5 nv5 c5) (.slice A3 nf c3) hm5
                  have hone := msg_one hm5
                  rw [← hcells] at hZ5
                  have hrZ := hZ5.range
                  obtain ⟨z, hz⟩ : ∃ z, z = w4.heap.size := ⟨_, rfl⟩
                  rw [← hz] at hrZ hZ5 ⊢
                  clear hz
                  obtain ⟨CS, hCS⟩ : ∃ CS, CS = m.cells (.slice A5 nv5 c5) (.slice A3 nf c3) := ⟨_, rfl⟩
                  rw [← hCS] at hrZ hZ5 k79 hone
                  have hc16 : (Tryd.prog.info? 143).map (·.size) = some CS.length := (by rw [hCS]; exact msg_info)
                  have hld := run_loadVar_mid (P := Tryd.prog) W5 z 0 143 CS _ hrZ Tryd.underlying143 rfl hc16
                  have HM := Lib.hid (And.intro hm5 (And.intro hm (And.intro hCS (And.intro hZ5 (And.intro hone hc16)))))
                  have HK6 := Lib.hid k79
                  clear k79 hm5 hm hcells hCS hrZ hZ5 hone hc16
                  simp [go_sem] at hld
                  cases hck : chkM m with
                  | false =>
                    rw [hck] at HK6
                    have hp : pans bs = (5, zeroMsg) := by rw [HX.out.1]; exact pans_none (pMsg_none4 HP.out.1 H2.out.2.2.2.1 H3.out.2.2.2.1 (fun h => by have := h.2.2.2; rw [← HM.out.2.1, hck] at this; cases this))
                    have HPP := Lib.hid hp
                    clear hp hck
                    go_upto_region 18 with (first | (go_at_call 79; refine HK6.out.mono ?_; rintro e w6 ⟨rfl, b6⟩; have H6 := Lib.hid b6; clear b6) | fail)
                    have hx6 := HB5.out.2.1.below H6.out HB5.out.2.1.lt
                    have hb6 := HB5.out.1.trans (H6.out.mono HB5.out.1.size)
                    have hp := HPP.out
                    clear hld
                    have HXX := Lib.hid (And.intro hx6 (And.intro hb6 hp))
                    clear hx6 hb6 hp
                    go_wp2_with (first
                      | ((with_reducible refine is_store 143 (.tmp 2) (.tmp 139) ?_)
                         refine law_store_row 143 (.tmp 2) (.tmp 139) x 143 zRow zRow HXX.out.1 (by rfl) (by rfl) msg_info (by rfl) zRow_one ?_
                         intro W6 hx6 f6 s6
                         have H6X := Lib.hid (And.intro hx6 f6)
                         clear hx6 f6 s6)
                      | fail)
                    have hwx := HLO.out.1
                    have hfin : Below w.heap.size w W6 := ((Fr.of_below HXX.out.2.1 (fun _ => False)).trans (H6X.out.2.mono HXX.out.2.1.size (S' := fun _ => False) (fun q hq he => by omega))).below (fun _ _ h => h)
                    exact bodyPost_ret (v := .tuple #[.agg zRow, .int .i64 5]) (res82 _ x zList _ W6 rfl H6X.out.1 rfl rfl) rfl (rm_refuse 5 HXX.out.2.2 hfin)
                  | true =>
                    rw [hck] at HK6
                    have hp : pans bs = (0, m) := by
                      rw [HX.out.1, HM.out.2.1]
                      rw [HM.out.2.1] at hck
                      exact pans_some (pMsg_some HP.out.1 H2.out.2.2.2.1 (by have := H3.out.2.2.2.1; rwa [HDR.out.1] at this) HKE.out.symm (by have := HDR.out.2; show n13 ≤ 1; omega) hck)
                    have HPP := Lib.hid hp
                    clear hp hck
                    go_upto_region 19 with (first | (go_at_call 79; refine HK6.out.mono ?_; rintro e w6 ⟨rfl, b6⟩; have H6 := Lib.hid b6; clear b6) | fail)
                    have hx6 := HB5.out.2.1.below H6.out HB5.out.2.1.lt
                    have hb6 := HB5.out.1.trans (H6.out.mono HB5.out.1.size)
                    have hm6 := HM.out.1.below H6.out (Nat.le_refl _)
                    have hrZ6 := (HM.out.2.2.2.1.below H6.out HM.out.2.2.2.1.lt).range
                    have hxl2 : x < w2.heap.size := H2.out.1.2.1.lt
                    have H9X := Lib.hid (And.intro hx6 (And.intro hb6 (And.intro hm6 hxl2)))
                    clear hx6 hb6 hm6 hxl2 hld
                    go_wp2_with (first
                      | ((with_reducible refine law_load 143 (.tmp 15) z 0 CS ?_ hrZ6 Tryd.underlying143 ?_ ?_ ?_); rfl; rfl; exact HM.out.2.2.2.2.2)
                      | ((with_reducible refine is_store 143 (.tmp 2) (.tmp 140) ?_)
                         refine law_store_row 143 (.tmp 2) (.tmp 140) x 143 zRow CS.toArray H9X.out.1 rfl rfl HM.out.2.2.2.2.2 (by rw [HM.out.2.2.1]; rfl) HM.out.2.2.2.2.1 ?_
                         intro W7 hx7 f7 s7
                         have H7X := Lib.hid (And.intro hx7 (And.intro f7 s7))
                         clear hx7 f7 s7)
                      | fail)
                    have hwx := HLO.out.1
                    have hxl2 := H9X.out.2.2.2
                    have hfin : Below w.heap.size w W7 := ((Fr.of_below H9X.out.2.1 (fun _ => False)).trans (H7X.out.2.1.mono H9X.out.2.1.size (S' := fun _ => False) (fun q hq he => by omega))).below (fun _ _ h => h)
                    have hlow2 : w.heap.size ≤ w2.heap.size := H2.out.1.1.size
                    have hsz := H7X.out.2.2
                    have hm7 : MsgAt W7 w.heap.size W7.heap.size (.slice A5 nv5 c5) (.slice A3 nf c3) m :=
                      (H9X.out.2.2.1.fr H7X.out.2.1 H9X.out.2.2.1.hi_ (fun q h1 _ he => by omega)).wider hlow2 (by rw [hsz]; exact H9X.out.2.2.1.hi_) (Nat.le_refl _)
                    exact bodyPost_ret (v := .tuple #[.agg CS.toArray, .int .i64 0]) (res82 _ x CS _ W7 (by rw [HM.out.2.2.1]; rfl) H7X.out.1 rfl rfl) rfl ⟨.slice A5 nv5 c5, .slice A3 nf c3, by rw [HPP.out, HM.out.2.2.1]; rfl, by rw [HPP.out]; exact hm7, hfin⟩
                · have h0' : ¬ (kE : Int) = 0 := by omega
                  have hp : pans bs = (5, zeroMsg) := by rw [HX.out.1]; exact pans_none (pMsg_bad HP.out.1 H2.out.2.2.2.1 (by rw [← HKE.out]; exact h0))
                  have hx5 := HB5.out.2.1
                  have hb5 := HB5.out.1
                  clear hZ5
                  have HXX := Lib.hid (And.intro hx5 (And.intro hb5 hp))
                  clear hx5 hb5 hp
                  go_wp2_with (first
                    | ((with_reducible refine is_store 143 (.tmp 2) (.tmp 139) ?_)
                       refine law_store_row 143 (.tmp 2) (.tmp 139) x 143 zRow zRow HXX.out.1 (by rfl) (by rfl) msg_info (by rfl) zRow_one ?_
                       intro W6 hx6 f6 s6
                       have H6X := Lib.hid (And.intro hx6 f6)
                       clear hx6 f6 s6)
                    | fail)
                  have hwx := HLO.out.1
                  have hfin : Below w.heap.size w W6 := ((Fr.of_below HXX.out.2.1 (fun _ => False)).trans (H6X.out.2.mono HXX.out.2.1.size (S' := fun _ => False) (fun q hq he => by omega))).below (fun _ _ h => h)
                  exact bodyPost_ret (v := .tuple #[.agg zRow, .int .i64 5]) (res82 _ x zList _ W6 rfl H6X.out.1 rfl rfl) rfl (rm_refuse 5 HXX.out.2.2 hfin)
            · have hqk' : ¬ (q3 : Int) = k := by omega
              have hdrop : ¬ xs.drop q3 = [] := fun h => by have e := congrArg List.length h; rw [List.length_drop] at e; simp at e; have := HX.out.2.2.1; omega
              have hp : pans bs = (5, zeroMsg) := by rw [HX.out.1]; exact pans_none (pMsg_none4 HP.out.1 H2.out.2.2.2.1 H3.out.2.2.2.1 (fun h => hdrop h.2.1))
              have hx3 := H3.out.1.2.1
              have hb3 := H3.out.1.1
              clear hdrop
              have HXX := Lib.hid (And.intro hx3 (And.intro hb3 hp))
              clear hx3 hb3 hp
              go_wp2_with (first
                | ((with_reducible refine is_store 143 (.tmp 2) (.tmp 76) ?_)
                   refine law_store_row 143 (.tmp 2) (.tmp 76) x 143 zRow zRow HXX.out.1 (by rfl) (by rfl) msg_info (by rfl) zRow_one ?_
                   intro W6 hx6 f6 s6
                   have H6X := Lib.hid (And.intro hx6 f6)
                   clear hx6 f6 s6)
                | fail)
              have hwx := HLO.out.1
              have hfin : Below w.heap.size w W6 := ((Fr.of_below HXX.out.2.1 (fun _ => False)).trans (H6X.out.2.mono HXX.out.2.1.size (S' := fun _ => False) (fun q hq he => by omega))).below (fun _ _ h => h)
              exact bodyPost_ret (v := .tuple #[.agg zRow, .int .i64 5]) (res82 _ x zList _ W6 rfl H6X.out.1 rfl rfl) rfl (rm_refuse 5 HXX.out.2.2 hfin)
          · have h3 := HBel.out w3 (H2.out.2.2.1.trans (f3.mono H2.out.2.2.1.size (fun _ _ h => h)))
            have hp : pans bs = (5, zeroMsg) := by rw [HX.out.1]; exact pans_none (pMsg_none3 HP.out.1 H2.out.2.2.2.1 p3)
            have hx3 := h3.2.1
            have hb3 := h3.1
            clear h3 p3 D3 f3
            have HXX := Lib.hid (And.intro hx3 (And.intro hb3 hp))
            clear hx3 hb3 hp
            go_wp2_with (first
              | ((with_reducible refine is_store 143 (.tmp 2) (.tmp 76) ?_)
                 refine law_store_row 143 (.tmp 2) (.tmp 76) x 143 zRow zRow HXX.out.1 (by rfl) (by rfl) msg_info (by rfl) zRow_one ?_
                 intro W6 hx6 f6 s6
                 have H6X := Lib.hid (And.intro hx6 f6)
                 clear hx6 f6 s6)
              | fail)
            have hwx := HLO.out.1
            have hfin : Below w.heap.size w W6 := ((Fr.of_below HXX.out.2.1 (fun _ => False)).trans (H6X.out.2.mono HXX.out.2.1.size (S' := fun _ => False) (fun q hq he => by omega))).below (fun _ _ h => h)
            exact bodyPost_ret (v := .tuple #[.agg zRow, .int .i64 5]) (res82 _ x zList _ W6 rfl H6X.out.1 rfl rfl) rfl (rm_refuse 5 HXX.out.2.2 hfin)
        · rw [pBytes_piece HP.out.2.1 HP.out.2.2] at p2
          have hp : pans bs = (5, zeroMsg) := by rw [HX.out.1]; exact pans_none (pMsg_none2 HP.out.1 p2)
          have HPP := Lib.hid hp
          have k113 := rBytes_any w2 g g q c1 4096 A1 xs D2 HX.out.2.1 (by decide)
          have k113' : Calls Tryd.prog 113 #[.pointer (some ⟨g, 0, none⟩), .int .i64 4096] w2 fun e w' => ∃ v z, e = .returned (.tuple #[v, .int .i64 z]) ∧ (z = 0 ∨ z = 5) ∧ Fr w2.heap.size (fun k => k = g) w2 w' := by
            refine k113.mono ?_
            rintro e w3 (⟨f, q3, A3, c3, p3, rfl, o3, D3, f3⟩ | ⟨p3, rfl, D3, f3⟩)
            · exact ⟨_, 0, rfl, .inl rfl, f3⟩
            · exact ⟨_, 5, rfl, .inr rfl, f3⟩
          have HK4 := Lib.hid k113'
          have HF2 := Lib.hid f2
          clear k113 k113' p2 D2 f2 hp
          go_upto_region 13 with (first | (go_at_call 113; refine HK4.out.mono ?_; rintro e w3 ⟨v3, z3, rfl, hz3, f3⟩; have F3 := Lib.hid f3; clear f3) | fail)
          have h3 := HBel.out w3 (HF2.out.trans (F3.out.mono HF2.out.size (fun _ _ h => h)))
          have hx3 := h3.2.1
          have hb3 := h3.1
          have hp := HPP.out
          clear h3
          rcases hz3 with rfl | rfl
          · skip
            have HXX := Lib.hid (And.intro hx3 (And.intro hb3 hp))
            clear hx3 hb3 hp
            go_wp2_with (first
              | ((with_reducible refine is_store 143 (.tmp 2) (.tmp 76) ?_)
                 refine law_store_row 143 (.tmp 2) (.tmp 76) x 143 zRow zRow HXX.out.1 (by rfl) (by rfl) msg_info (by rfl) zRow_one ?_
                 intro W6 hx6 f6 s6
                 have H6X := Lib.hid (And.intro hx6 f6)
                 clear hx6 f6 s6)
              | fail)
            have hwx := HLO.out.1
            have hfin : Below w.heap.size w W6 := ((Fr.of_below HXX.out.2.1 (fun _ => False)).trans (H6X.out.2.mono HXX.out.2.1.size (S' := fun _ => False) (fun q hq he => by omega))).below (fun _ _ h => h)
            exact bodyPost_ret (v := .tuple #[.agg zRow, .int .i64 5]) (res82 _ x zList _ W6 rfl H6X.out.1 rfl rfl) rfl (rm_refuse 5 HXX.out.2.2 hfin)
          · skip
            have HXX := Lib.hid (And.intro hx3 (And.intro hb3 hp))
            clear hx3 hb3 hp
            go_wp2_with (first
              | ((with_reducible refine is_store 143 (.tmp 2) (.tmp 76) ?_)
                 refine law_store_row 143 (.tmp 2) (.tmp 76) x 143 zRow zRow HXX.out.1 (by rfl) (by rfl) msg_info (by rfl) zRow_one ?_
                 intro W6 hx6 f6 s6
                 have H6X := Lib.hid (And.intro hx6 f6)
                 clear hx6 f6 s6)
              | fail)
            have hwx := HLO.out.1
            have hfin : Below w.heap.size w W6 := ((Fr.of_below HXX.out.2.1 (fun _ => False)).trans (H6X.out.2.mono HXX.out.2.1.size (S' := fun _ => False) (fun q hq he => by omega))).below (fun _ _ h => h)
            exact bodyPost_ret (v := .tuple #[.agg zRow, .int .i64 5]) (res82 _ x zList _ W6 rfl H6X.out.1 rfl rfl) rfl (rm_refuse 5 HXX.out.2.2 hfin)
end Go.Proofs.YtnlncfjibbdimaaDoor

namespace Go.Proofs.YtnlncfjibbdimaaDoor
open Go.RowKit
set_option linter.unusedSimpArgs false
set_option linter.unusedVariables false
/-- Values that are bytes. -/
def AllU8 (xs : List Value) : Prop := ∀ u ∈ xs, ∃ z : Int, u = .int .u8 z
theorem AllU8.u8s (bs : List Nat) : AllU8 (u8s bs) := by
  intro u hu
  unfold Go.Proofs.YtnlncfjibbdimaaDoor.u8s at hu
  obtain ⟨x, _, rfl⟩ := List.mem_map.1 hu
  exact ⟨x, rfl⟩
theorem AllU8.set {xs : List Value} (h : AllU8 xs) (k : Nat) (z : Int) : AllU8 (xs.set k (.int .u8 z)) := by
  intro u hu
  rcases List.mem_or_eq_of_mem_set hu with h1 | h1
  · exact h u h1
  · exact ⟨z, h1⟩
theorem AllU8.app {xs ys : List Value} (h : AllU8 xs) (h2 : AllU8 ys) : AllU8 (xs ++ ys) := by
  intro u hu
  rcases List.mem_append.1 hu with h1 | h1
  · exact h u h1
  · exact h2 u h1
/-- A byte of a row of the call's own is written. -/
theorem own_set {W : World} {lo n : Nat} {B : Option Addr} {c : Nat} {xs : List Value} {k : Nat} (h : W.ownsRow lo 5 1 (.slice B n c) n xs) (hk : k < n) (hx : AllU8 xs) :
    ∃ g z, B = some ⟨g, 0, none⟩ ∧ lo ≤ g ∧ n ≤ c ∧ W.cell? ⟨g, k, none⟩ = some (.int .u8 z) ∧ W.frozen? ⟨g, k, none⟩ = false ∧
      ∀ z' : Int, (W.setCell ⟨g, k, none⟩ (.int .u8 z')).ownsRow lo 5 1 (.slice B n c) n (xs.set k (.int .u8 z')) := by
  have hlen := h.1
  rcases h.2 with ⟨_, h0⟩ | ⟨g, cap, cur, hv, hg, hB, h3, h4, h5, h6⟩
  · omega
  · injection hv with e1 _ e2
    subst e1 e2
    have hB' : Blk W g 5 cur := hB
    obtain ⟨u, hu⟩ : ∃ u, xs[k]? = some u := ⟨_, List.getElem?_eq_getElem (by omega)⟩
    obtain ⟨z, rfl⟩ := hx u (List.mem_of_getElem? hu)
    have hc : cur[k]? = some (.int .u8 z) := by
      rw [← h6, List.getElem?_take] at hu
      split at hu
      · simpa using hu
      · cases hu
    refine ⟨g, z, rfl, hg, h3, by rw [hB'.cell k, hc], hB'.frozen k, fun z' => ⟨by rw [List.length_set]; exact hlen, .inr ⟨g, c, cur.setIfInBounds k (.int .u8 z'), rfl, hg, hB'.set_ k _, h3, h4, by simpa using h5, ?_⟩⟩⟩
    rw [← h6]
    simp [List.take_set]
set_option maxRecDepth 100000 in
set_option maxHeartbeats 3200000 in
theorem apart_any (w : World) (lo1 hi1 lo n c d : Nat) (A B : Option Addr) (bs : List Nat) (xs : List Value) (hr : Rd w lo1 hi1 1 A bs.length (u8s bs)) (hA : A = none → d = 0) (h256 : ∀ x ∈ bs, x < 256) (hhi : hi1 ≤ lo) (hlow : lo ≤ w.heap.size)
    (ho : w.ownsRow lo 5 1 (.slice B n c) n xs) (hx : AllU8 xs) (hn : n ≤ 4096) : Calls Tryd.prog 83 #[.slice A bs.length d, .slice B n c] w fun e w' => e = .returned (.bool true) ∧ Below lo w w' := by
  have hcv : ∀ W, Below lo w W → (convert 84 9 (.slice A bs.length d)).run Tryd.prog W = .ok (.string (textOf bs)) W := fun W b =>
    conv_bytes h256 (hr.fr (Fr.of_below b (fun _ => False)) hhi (fun _ _ _ h => h)) hA
  obtain ⟨i0, hi0, hz0, hz1, hz2⟩ := info_parts8 u8_info
  obtain ⟨na, hna⟩ : ∃ na, na = bs.length := ⟨_, rfl⟩
  rw [← hna] at hcv ⊢
  have hc0 := hcv w (Below.refl _ _)
  have HC := Lib.hid hcv
  have H0 := Lib.hid (And.intro ho (And.intro hx hlow))
  clear hr hA h256 hhi ho hx hcv hna
  go_enter Tryd.func83, Tryd.ntmps83
  go_upto_region 3 with (fail)
  go_loopw [13] (fun i wr => ∃ (k : Nat) (ys : List Value), k ≤ n ∧ i = .int .i64 k ∧ Hid (Below lo w wr ∧ wr.ownsRow lo 5 1 (.slice B n c) n ys ∧ AllU8 ys)) (fun i _ => n - (intOf i).toNat)
  case atStart => exact ⟨0, xs, Nat.zero_le _, rfl, Lib.hid ⟨Below.refl _ _, H0.out.1, H0.out.2.1⟩⟩
  case round =>
    obtain ⟨k, ys, hk, rfl, HR⟩ := hrel
    clear hc0
    by_cases hlt : (k : Int) < n
    · obtain ⟨g, z, rfl, hg, hnc, hcell, hfz, hset⟩ := own_set HR.out.2.1 (show k < n by omega) HR.out.2.2
      have HS := Lib.hid (And.intro hset hg)
      have hnc' : (n : Int) ≤ c := by omega
      clear hset hg
      go_wp2_with (fail)
      go_roundw
      case rel => exact ⟨k + 1, ys.set k (.int .u8 _), by omega, by go_num, Lib.hid ⟨HR.out.1.setCell (p := ⟨g, k, none⟩) HS.out.2 _, HS.out.1 _, HR.out.2.2.set k _⟩⟩
      case measure => simp [intOf]; omega
    · have hc1 := HC.out wr HR.out.1
      have hbe : Below wr.heap.size wr (wr.alloc (.cells #[.int .u8 7, .int .u8 7, .int .u8 7, .int .u8 7, .int .u8 7, .int .u8 7, .int .u8 7, .int .u8 7] 5)) := (Below.refl _ _).alloc (Nat.le_refl _) _
      have hB8 := Blk.new wr 5 #[.int .u8 7, .int .u8 7, .int .u8 7, .int .u8 7, .int .u8 7, .int .u8 7, .int .u8 7, .int .u8 7]
      have hO0 : OwnRow wr lo wr.heap.size 5 1 (.slice B n c) n ys := ⟨HR.out.2.1, fun g hg => (HR.out.2.1.lt g hg).2⟩
      have hO1 := (hO0.fr (Fr.of_below hbe (fun _ => False)) (Nat.le_refl _) (fun _ _ _ h => h)).1
      obtain ⟨E8, hE8⟩ : ∃ E8 : List Value, E8 = [.int .u8 7, .int .u8 7, .int .u8 7, .int .u8 7, .int .u8 7, .int .u8 7, .int .u8 7, .int .u8 7] := ⟨_, rfl⟩
      have hrd : Rd (wr.alloc (.cells #[.int .u8 7, .int .u8 7, .int .u8 7, .int .u8 7, .int .u8 7, .int .u8 7, .int .u8 7, .int .u8 7] 5)) 0 (wr.heap.size + 1) 1 (some ⟨wr.heap.size, 0, none⟩) 8 E8 :=
        ⟨by rw [hE8]; rfl, fun _ => ⟨_, rfl, Nat.zero_le _, by simp, fun j u hu => by rw [Addr.add_mid, Nat.zero_add, hB8.cell j, ← hu, hE8]; simp⟩⟩
      have h1E : ∀ u ∈ E8, u.oneCell' = true := by rw [hE8]; intro u hu; simp at hu; subst hu; rfl
      have hxE : AllU8 E8 := by rw [hE8]; intro u hu; simp at hu; exact ⟨7, hu⟩
      have hs1 := HR.out.1.size
      have hb1 : Below lo w (wr.alloc (.cells #[.int .u8 7, .int .u8 7, .int .u8 7, .int .u8 7, .int .u8 7, .int .u8 7, .int .u8 7, .int .u8 7] 5)) := HR.out.1.alloc (by omega) _
      have HA := Lib.hid (And.intro hO1 (And.intro hrd (And.intro h1E (And.intro hxE (And.intro hb1 (show lo ≤ wr.heap.size + 1 by omega))))))
      clear hbe hB8 hO0 hO1 hrd h1E hxE hb1 hE8 hs1
      go_upto_region 11 with (first
        | (at_builtin
           refine wpList_append_any _ rfl (.tmp 29) (.tmp 30) 84 rfl lo 5 i0 _ 1 1 Tryd.underlying84 hi0 hz0 hz1 hz2 rfl (by decide) (.slice B n c) n ys rfl HA.out.1
             0 (wr.heap.size + 1) (some ⟨wr.heap.size, 0, none⟩) 8 8 E8 rfl HA.out.2.1 HA.out.2.2.1 (by simp only [maxLen]; omega) (by omega) (by simpa using HA.out.2.2.2.2.2) ?_
           intro v2 w2 hown2 hg2 hat2
           have hO2 : OwnRow w2 lo w2.heap.size 5 1 v2 (n + 8) (ys ++ E8) := ⟨hown2, fun g hg => (hown2.lt g hg).2⟩
           have hb2 : Below lo w w2 := HA.out.2.2.2.2.1.grown hg2 (by simpa using HA.out.2.2.2.2.2) (fun k hk => (HA.out.1.lt k hk).1)
           obtain ⟨A2, c2, hv2, _⟩ := hO2.form
           subst hv2
           have H2 := Lib.hid (And.intro hown2 hb2)
           clear hown2 hg2 hat2 hO2 hb2)
        | fail)
      have hw8 : IntKind.i64.wrap ((n : Int) + 8) = (n : Int) + 8 := by rw [IntKind.wrap_i64]; omega
      clear hc1
      go_upto_region 12 with (fail)
      go_loopw [8] (fun i wr2 => ∃ (k : Nat) (zs : List Value), k ≤ n + 8 ∧ i = .int .i64 k ∧ Hid (Below lo w wr2 ∧ wr2.ownsRow lo 5 1 (.slice A2 (n + 8) c2) (n + 8) zs ∧ AllU8 zs)) (fun i _ => n + 8 - (intOf i).toNat)
      case atStart => exact ⟨n, ys ++ E8, by omega, rfl, Lib.hid ⟨H2.out.2, H2.out.1, HR.out.2.2.app HA.out.2.2.2.1⟩⟩
      case round =>
        obtain ⟨j, zs, hj, rfl, HQ⟩ := hrel
        by_cases hlt2 : (j : Int) < (n : Int) + 8
        · obtain ⟨g, z, rfl, hg, hnc, hcell, hfz, hset⟩ := own_set HQ.out.2.1 (show j < n + 8 by omega) HQ.out.2.2
          have HS := Lib.hid (And.intro hset hg)
          have hnc' : (n : Int) + 8 ≤ c2 := by omega
          clear hset hg
          go_wp2_with (fail)
          go_roundw
          case rel => exact ⟨j + 1, zs.set j (.int .u8 _), by omega, by go_num, Lib.hid ⟨HQ.out.1.setCell (p := ⟨g, j, none⟩) HS.out.2 _, HS.out.1 _, HQ.out.2.2.set j _⟩⟩
          case measure => simp [intOf]; omega
        · have hc2 := HC.out _ HQ.out.1
          go_wp2_with (fail)
          go_ret
          exact ⟨rfl, HQ.out.1⟩
end Go.Proofs.YtnlncfjibbdimaaDoor
