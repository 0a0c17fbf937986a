/-
  Messages (layer 15), the plain law: their bytes, and what is read from bytes. No walk stands here.
-/
import Derived.Laws.MakeOwn
import Derived.Deep.RegionHeld3
import Derived.Deep.DeepCutAuto
import Derived.Test.YtnlncfjibbdimaaDoorURefWire
import Derived.Test.YtnlncfjibbdimaaDoorUWireX
import Derived.Test.YtnlncfjibbdimaaDoorUSameL
import Derived.Test.YtnlncfjibbdimaaDoorUCheck
import Derived.Test.YtnlncfjibbdimaaDoorUPiece
import Derived.Test.YtnlncfjibbdimaaDoorUKind
import Derived.Test.YtnlncfjibbdimaaDoorULex
import Derived.Test.YtnlncfjibbdimaaDoorUNames5
import Derived.Test.YtnlncfjibbdimaaDoorUBase
import Derived.Test.YtnlncfjibbdimaaDoorULaws
import Derived.Test.YtnlncfjibbdimaaDoorUSameC
import Derived.Test.YtnlncfjibbdimaaDoorURdrA
import Derived.Test.YtnlncfjibbdimaaDoorURdX
import Derived.Test.YtnlncfjibbdimaaDoorUReadX
import Derived.Test.YtnlncfjibbdimaaDoorUGetZ
import Derived.Test.YtnlncfjibbdimaaDoorURdr6
import Derived.Test.YtnlncfjibbdimaaDoorURdr8
import Derived.Test.YtnlncfjibbdimaaDoorUDGet
import Derived.Test.YtnlncfjibbdimaaDoorUInLaw
import Derived.Test.YtnlncfjibbdimaaDoorUInForm
import Derived.Test.YtnlncfjibbdimaaDoorURRead
import Derived.Test.YtnlncfjibbdimaaDoorWRefX
import Derived.Test.YtnlncfjibbdimaaDoorWDGet
namespace Go.Proofs.YtnlncfjibbdimaaDoor
open Go.RowKit
set_option linter.unusedSimpArgs false
set_option linter.unusedVariables false
theorem OwnB.capR {w : World} {lo n c : Nat} {A : Option Addr} {bs : List Nat} (h : OwnB w lo (.slice A n c) bs) : bs.length ≤ c ∧ c ≤ 9223372036854775807 := by
  rcases h.2.2.2 with ⟨h1, h2⟩ | ⟨_, _, _, h1, _, _, h2, h3, _⟩
  · injection h1 with _ _ h1
    omega
  · injection h1 with _ _ h1
    subst h1
    simp only [maxLen] at h3
    exact ⟨h2, h3⟩
set_option maxRecDepth 100000 in
set_option maxHeartbeats 6400000 in
theorem rreadL_any (w : World) (hi c : Nat) (A : Option Addr) (bs : List Nat) (hr : Rd w 0 hi 1 A bs.length (u8s bs)) (hhi : hi ≤ w.heap.size) (hl : bs.length ≤ 140737488351232) (hc : bs.length ≤ c ∧ c ≤ 9223372036854775807) (hA : A = none → c = 0) (h256 : ∀ x ∈ bs, x < 256) :
    Calls Tryd.prog 73 #[.slice A bs.length c] w (RReadLPost bs w) := by
  have k138 := ropen_any w hi c A bs hr hhi hl hc hA h256
  have HK := Lib.hid k138
  have H := Lib.hid (And.intro hl h256)
  clear hr hhi hl hc h256 hA k138
  go_enter Tryd.func73, Tryd.ntmps73
  go_upto_region 2 with (first | (go_at_call 138; refine HK.out.mono ?_; rintro e w1 ⟨b1, ⟨hs, rfl⟩ | ⟨hs1, hs2, rfl⟩ | ⟨xs, A1, c1, hbs, rfl, o1⟩⟩) | fail)
  · go_wp2_with (fail)
    go_ret2
    exact ⟨b1, .inl ⟨hs, rfl⟩⟩
  · go_wp2_with (fail)
    go_ret2
    exact ⟨b1, .inr (.inl ⟨hs1, hs2, rfl⟩)⟩
  · have hxl : xs.length + 4 ≤ 140737488351232 := by have := H.out.1; rw [hbs, sealN_length] at this; exact this
    have hx256 : ∀ x ∈ xs, x < 256 := fun x hx => H.out.2 x (by rw [hbs]; exact List.mem_append_left _ hx)
    have hds : DS xs c1 := ⟨by omega, o1.capR, hx256⟩
    have hob : ∀ k, (Value.slice A1 xs.length c1).ownBlock = some k → k < w1.heap.size := fun k hk => (o1.2.2.lt k hk).2
    have H1 := Lib.hid (And.intro b1 (And.intro hbs (And.intro hx256 (And.intro hds (And.intro hob o1)))))
    obtain ⟨n, hn⟩ : ∃ n, n = xs.length := ⟨_, rfl⟩
    have HN := Lib.hid (And.intro hn hxl)
    -- the reader over an own row: as a contract asks it
    have hmkD : ∀ (W : World) (g q : Nat), OwnB W w.heap.size (.slice A1 xs.length c1) xs → Blk W g 192 #[.slice A1 xs.length c1, .int .i64 q] → w1.heap.size ≤ g → q ≤ xs.length → DRd W w1.heap.size g xs A1 c1 q := fun W g q ho hb hg hq =>
      ⟨hb, (Rd.of_own ho.2.2 hob).wider (Nat.zero_le _) (Nat.le_refl _), hg, hq⟩
    have HD := Lib.hid hmkD
    clear hxl hx256 hds hob o1 b1 hbs hmkD
    rw [← hn]
    clear hn
    go_upto_region 5 with (fail)
    refine wp_letter (fun W => Below w.heap.size w W ∧ OwnB W w.heap.size (.slice A1 xs.length c1) xs ∧ Blk W w1.heap.size 192 #[.slice A1 xs.length c1, .int .i64 (0 : Nat)])
      ⟨H1.out.1.alloc H1.out.1.size _, H1.out.2.2.2.2.2.below ((Below.refl w1.heap.size w1).alloc (Nat.le_refl _) _) (Nat.le_refl _), by rw [← HN.out.1]; exact Blk.new w1 192 _⟩ ?_
    obtain ⟨g, hg⟩ : ∃ g, g = w1.heap.size := ⟨_, rfl⟩
    rw [← hg]
    rintro W2 hW2
    have H2 := Lib.hid hW2
    have HGG := Lib.hid (show w1.heap.size ≤ g ∧ w.heap.size ≤ g from ⟨Nat.le_of_eq hg.symm, by rw [hg]; exact H1.out.1.size⟩)
    clear hW2 hg
    have k139 := rNum_any W2 w1.heap.size g 0 c1 4096 A1 xs (HD.out W2 g 0 H2.out.2.1 H2.out.2.2 HGG.out.1 (Nat.zero_le _)) H1.out.2.2.2.1 (by omega)
    have HK2 := Lib.hid k139
    clear k139
    go_upto_region 6 with (first | (go_at_call 139; refine HK2.out.mono ?_; rintro e w3 (⟨m, q0, hd, hm, rfl, D3, f3⟩ | ⟨hbad, rfl, D3, f3⟩)) | fail)
    · have hb3 : Below w.heap.size w w3 := ((Fr.of_below H2.out.1 (fun _ => False)).trans (f3.mono H2.out.1.size (S' := fun _ => False) (fun k hk he => by have := HGG.out.2; omega))).below (fun _ _ h => h)
      have ho3 := H2.out.2.1.frz f3 H2.out.2.2 (by decide)
      rw [List.drop_zero] at hd
      have HLD := Lib.hid (rdLed_of hd hm)
      have H3 := Lib.hid (And.intro hb3 (And.intro ho3 (And.intro D3.1 (show q0 ≤ xs.length from D3.2.2.2))))
      have hm63 : (m : Int) ≤ 4096 := by omega
      clear hb3 ho3 D3 f3 hd
      go_wp2_with (fail)
      go_loopw [8] (fun out wr => ∃ (A' : Option Addr) (c' : Nat) (l : List Cmd) (q : Nat), l.length ≤ m ∧ out = .slice A' l.length c' ∧ pCmds l.length (xs.drop q0) = some (l, xs.drop q) ∧ q ≤ xs.length ∧ OwnB wr w.heap.size (.slice A1 xs.length c1) xs ∧ Blk wr g 192 #[.slice A1 xs.length c1, .int .i64 q] ∧
        OwnLed wr w.heap.size wr.heap.size (.slice A' l.length c') l ∧ Below w.heap.size w wr) (fun out _ => m - (match out with | .slice _ k _ => k | _ => 0))
      case atStart => exact ⟨some ⟨w3.heap.size, 0, none⟩, 0, [], q0, Nat.zero_le _, rfl, rfl, H3.out.2.2.2, H3.out.2.1.below ((Below.refl w3.heap.size w3).alloc (Nat.le_refl _) _) (Nat.le_refl _), H3.out.2.2.1.alloc _, OwnLed.made w3 _ H3.out.1.size, H3.out.1.alloc H3.out.1.size _⟩
      case round =>
        obtain ⟨A', c', l, q, hk, rfl, hpc, hq, hOB, hBg, hO, hB⟩ := hrel
        have HS := Lib.hid (And.intro hpc (And.intro hq (And.intro hOB (And.intro hBg (And.intro hO hB)))))
        have cg := hBg.cell 1
        clear hpc hq hOB hBg hO hB
        by_cases hlt : (l.length : Int) < m
        · have k113 := rBytes_any wr w1.heap.size g q c1 n A1 xs (HD.out wr g q HS.out.2.2.1 HS.out.2.2.2.1 HGG.out.1 HS.out.2.1) H1.out.2.2.2.1 (by have := HN.out; omega)
          have HK3 := Lib.hid k113
          have hpe : pBytes n (xs.drop q) = pPiece (xs.drop q) := pBytes_piece (fun x hx => H1.out.2.2.1 x (List.mem_of_mem_drop hx)) (by rw [List.length_drop]; have := HN.out.1; omega)
          have HPE := Lib.hid hpe
          clear k113 hpe cg
          go_upto_region 11 with (first | (go_at_call 113; refine HK3.out.mono ?_; rintro e w4 (⟨one, q4, A4, c4, hp4, rfl, o4, D4, f4⟩ | ⟨hbadp, rfl, D4, f4⟩)) | fail)
          · have hb4 : Below w.heap.size w w4 := ((Fr.of_below HS.out.2.2.2.2.2 (fun _ => False)).trans (f4.mono HS.out.2.2.2.2.2.size (S' := fun _ => False) (fun k hk he => by have := HGG.out.2; omega))).below (fun _ _ h => h)
            rw [HPE.out] at hp4
            have hone : (∀ x ∈ one, x < 256) ∧ one.length ≤ 140737488355328 := by
              unfold pPiece at hp4
              have hd256 : ∀ x ∈ xs.drop q, x < 256 := fun x hx => H1.out.2.2.1 x (List.mem_of_mem_drop hx)
              cases hd : dec (xs.drop q) with
              | none => rw [hd] at hp4; cases hp4
              | some y =>
                obtain ⟨n1, r1⟩ := y
                rw [hd] at hp4
                simp only at hp4
                split at hp4
                · injection hp4 with hp4
                  injection hp4 with e1 _
                  have hr := dec_rest hd256 hd
                  have e := congrArg List.length (dec_inv hd256 hd)
                  rw [List.length_append, List.length_drop] at e
                  refine ⟨fun x hx => hr x (by rw [← e1] at hx; exact List.mem_of_mem_take hx), ?_⟩
                  rw [← e1, List.length_take]
                  have := HN.out
                  omega
                · cases hp4
            have H4 := Lib.hid (And.intro hb4 (And.intro (HS.out.2.2.1.frz f4 HS.out.2.2.2.1 (by decide)) (And.intro D4.1 (And.intro (show q4 ≤ xs.length from D4.2.2.2) (And.intro ((HS.out.2.2.2.2.1.frz f4 HS.out.2.2.2.1 (by decide) (by decide)).wider (Nat.le_refl _) f4.size) (And.intro hp4 hone))))))
            have k50 := rget_any w4 w4.heap.size c4 A4 one ((Rd.of_own o4.2.2 (fun g hg => (o4.2.2.lt g hg).2)).wider (Nat.zero_le _) (Nat.le_refl _)) (Nat.le_refl _) ⟨hone.2, o4.capR, hone.1⟩
            have HK4 := Lib.hid k50
            clear hb4 hp4 hone o4 D4 f4 k50
            cases hgc : gcmd one with
            | none =>
              have hnone : rdLed xs = none := by rw [HLD.out, pCmds_stop HS.out.1 (.inr ⟨one, _, H4.out.2.2.2.2.2.1, hgc⟩) (by omega)]; rfl
              have HNO := Lib.hid (And.intro hgc hnone)
              clear hgc hnone
              have hzc : (Tryd.prog.info? 81).map (·.size) = some zCells.size := cmd_info
              have hzo : zCells.all (·.oneCell') = true := by simp [zCells, Value.oneCell']
              go_wp2_with (first
                | (go_at_call 50; refine HK4.out.mono ?_; rintro e w5 hg5; obtain ⟨rfl, b5⟩ := hg5.none_ HNO.out.1; have H6 := Lib.hid ((H4.out.1.trans (b5.mono H4.out.1.size)).alloc (H4.out.1.trans (b5.mono H4.out.1.size)).size (.cells zCells 81)); clear b5 hg5)
                | ((with_reducible refine law_store_fresh 81 (.tmp 11) (.tmp 50) w5 81 _ zCells ?_ ?_ rfl hzc ?_ hzo ?_); rfl; rfl; rfl)
                | fail)
              go_ret2
              exact ⟨H6.out, .inr (.inr ⟨xs, H1.out.2.1, .inl ⟨HNO.out.2, rfl⟩⟩)⟩
            | some cm =>
              have HGC := Lib.hid hgc
              clear hgc
              obtain ⟨i1, z1, hi1, hz11, hz12, hz13, hz14⟩ := cmd_info'
              go_upto_region 16 with (first
                | (go_at_call 50
                   refine HK4.out.mono ?_
                   rintro e w5 hg5
                   obtain ⟨pv, rfl, ho5, b5⟩ := hg5.some_ HGC.out
                   have hbA : Below w5.heap.size w5 (w5.alloc (.cells (cm.cells pv).toArray 81)) := (Below.refl w5.heap.size w5).alloc (Nat.le_refl _) _
                   have hb45 := b5.trans (hbA.mono b5.size)
                   have hO6 := (H4.out.2.2.2.2.1.fr (Fr.of_below hb45 (fun _ => False)) (Nat.le_refl _) (fun _ _ _ h => h)).wider (Nat.le_refl _) hb45.size
                   have hp6 := (ho5.fr (Fr.of_below hbA (fun _ => False)) (Nat.le_refl _) (fun _ _ _ h => h)).wider H4.out.1.size hbA.size
                   have hone := intsAt_oneW ho5.at_
                   have H6 := Lib.hid (And.intro hO6 (And.intro hp6 (And.intro (H4.out.1.trans (hb45.mono H4.out.1.size)) (And.intro (H4.out.2.1.below hb45 (Nat.le_refl _)) (And.intro (H4.out.2.2.1.below hb45 H4.out.2.2.1.lt) hone)))))
                   clear ho5 b5 hg5 hbA hb45 hO6 hp6 hone)
                | ((with_reducible refine law_store_fresh 81 (.tmp 11) (.tmp 50) w5 81 _ (cm.cells pv).toArray ?_ ?_ rfl ?_ ?_ H6.out.2.2.2.2.2 ?_); rfl; rfl; exact cmd_info; rfl)
                | fail)
              refine wp_letter (fun W => OwnLed W w.heap.size W.heap.size (.slice A' l.length c') l ∧ OwnInts W w.heap.size W.heap.size pv cm.parts ∧ Below w.heap.size w W ∧ OwnB W w.heap.size (.slice A1 xs.length c1) xs ∧ Blk W g 192 #[.slice A1 xs.length c1, .int .i64 q4] ∧ Blk W w5.heap.size 81 (cm.cells pv).toArray)
                ⟨H6.out.1, H6.out.2.1, H6.out.2.2.1, H6.out.2.2.2.1, H6.out.2.2.2.2.1, Blk.new w5 81 _⟩ ?_
              rintro W6 hW6
              have hrx := hW6.2.2.2.2.2.range
              have G6 := Lib.hid hW6
              clear hW6
              go_wp2_with (first
                | ((with_reducible refine law_load 81 (.tmp 11) w5.heap.size 0 (cm.cells pv) ?_ hrx Tryd.underlying81 ?_ ?_ ?_); rfl; rfl; exact cmd_info)
                | ((with_reducible refine law_buildSlice1 46 81 (.tmp 55) i1 z1 (cm.cells pv).toArray 18 ?_ Tryd.underlying46 hi1 hz11 hz12 hz14 ?_ (by decide) (by decide) ?_); rfl; rfl)
                | (at_builtin
                   refine law_append81 (.tmp 54) (.tmp 56) w.heap.size (.slice A' l.length c') l cm pv rfl rfl rfl G6.out.1 G6.out.2.1 G6.out.2.2.1.size rfl (by omega) ?_
                   intro A7 c7 W7 o7 b7 f7
                   have H7 := Lib.hid (And.intro o7 (And.intro (G6.out.2.2.1.trans b7) (And.intro (G6.out.2.2.2.1.frT f7 (by decide)) (G6.out.2.2.2.2.1.frT f7 (Nat.le_refl _) (by decide)))))
                   clear o7 b7 f7)
                | fail)
              go_roundw
              case rel => exact ⟨A7, c7, l ++ [cm], q4, by rw [List.length_append]; have : [cm].length = 1 := rfl; omega, by rw [List.length_append]; rfl, by rw [List.length_append]; exact pCmds_snoc HS.out.1 H4.out.2.2.2.2.2.1 HGC.out, H4.out.2.2.2.1, H7.out.2.2.1, H7.out.2.2.2, by rw [List.length_append]; exact H7.out.1, H7.out.2.1⟩
              case measure => simp; omega
          · have hb4 : Below w.heap.size w w4 := ((Fr.of_below HS.out.2.2.2.2.2 (fun _ => False)).trans (f4.mono HS.out.2.2.2.2.2.size (S' := fun _ => False) (fun k hk he => by have := HGG.out.2; omega))).below (fun _ _ h => h)
            rw [HPE.out] at hbadp
            have H4 := Lib.hid (And.intro hb4 (show rdLed xs = none by rw [HLD.out, pCmds_stop HS.out.1 (.inl hbadp) (by omega)]; rfl))
            clear hb4 hbadp D4 f4
            go_wp2_with (fail)
            go_ret2
            exact ⟨H4.out.1, .inr (.inr ⟨xs, H1.out.2.1, .inl ⟨H4.out.2, rfl⟩⟩)⟩
        · have hkm : l.length = m := by omega
          have hpc := HS.out.1
          rw [hkm] at hpc
          by_cases hR : (q : Int) = (n : Int)
          · have hdr : xs.drop q = [] := List.drop_eq_nil_of_le (by have := HN.out.1; omega)
            have hsome : rdLed xs = some l := by rw [HLD.out, hpc]; simp only [Option.bind_some]; rw [if_pos hdr]
            have HSM := Lib.hid hsome
            clear hsome hpc hdr hkm
            go_wp2_with (fail)
            go_ret2
            exact ⟨HS.out.2.2.2.2.2, .inr (.inr ⟨xs, H1.out.2.1, .inr ⟨l, _, HSM.out, rfl, HS.out.2.2.2.2.1⟩⟩)⟩
          · have hdr : ¬ xs.drop q = [] := fun h => by
              have e := congrArg List.length h
              rw [List.length_drop] at e
              have := HN.out.1
              have := HS.out.2.1
              simp at e
              omega
            have hnone : rdLed xs = none := by rw [HLD.out, hpc]; simp only [Option.bind_some]; rw [if_neg hdr]
            have HNO := Lib.hid hnone
            have hR' : ((q : Int) != (n : Int)) = true := by simpa using hR
            clear hnone hpc hdr hkm
            go_wp2_with (fail)
            go_ret2
            exact ⟨HS.out.2.2.2.2.2, .inr (.inr ⟨xs, H1.out.2.1, .inl ⟨HNO.out, rfl⟩⟩)⟩
    · have hb3 : Below w.heap.size w w3 := ((Fr.of_below H2.out.1 (fun _ => False)).trans (f3.mono H2.out.1.size (S' := fun _ => False) (fun k hk he => by have := HGG.out.2; omega))).below (fun _ _ h => h)
      rw [List.drop_zero] at hbad
      have H3 := Lib.hid (And.intro hb3 (rdLed_none hbad))
      clear hb3 D3 f3 hbad
      go_wp2_with (fail)
      go_ret2
      exact ⟨H3.out.1, .inr (.inr ⟨xs, H1.out.2.1, .inl ⟨H3.out.2, rfl⟩⟩)⟩
end Go.Proofs.YtnlncfjibbdimaaDoor

namespace Go.Proofs.YtnlncfjibbdimaaDoor
open Go.ChangeShapes Go.WideShapes Go.ChangeAt Go.RowKit
set_option linter.unusedSimpArgs false
set_option linter.unusedVariables false
set_option maxRecDepth 100000
theorem arg_slice' {w : World} {r : Reach} {base : Nat} {v : Value} {t e : TypeId} (ht : Tryd.prog.underlying t = some (.slice e)) (h : Value.okWide Tryd.prog w r base t v) : v.cells.toList = [v] := by
  simp only [Value.okWide, ht, Cell.okWide] at h
  cases v <;> simp_all [Cell.ok, Value.cells]
end Go.Proofs.YtnlncfjibbdimaaDoor

namespace Go.Proofs.YtnlncfjibbdimaaDoor
open Go.RowKit
set_option linter.unusedSimpArgs false
set_option linter.unusedVariables false
set_option maxRecDepth 100000 in
set_option maxHeartbeats 1600000 in
theorem nbytes_any (w : World) (lo hi c : Nat) (A : Option Addr) (bs : List Nat) (hr : Rd w lo hi 1 A bs.length (u8s bs)) (hhi : hi ≤ w.heap.size) (hl : bs.length ≤ 140737488351232) :
    Calls Tryd.prog 49 #[.slice A bs.length c] w fun e w' => ∃ b c', e = .returned (.slice (some ⟨b, 0, none⟩) bs.length c') ∧ Marked w' w.heap.size b c' bs ∧ Below w.heap.size w w' := by
  obtain ⟨i0, hi0, hz0, hz1, hz2⟩ := info_parts8 u8_info
  obtain ⟨n, hn⟩ : ∃ n, n = bs.length := ⟨_, rfl⟩
  obtain ⟨m, hm⟩ : ∃ m, m = n + 6 := ⟨_, rfl⟩
  obtain ⟨w1, e1, o1, g1⟩ := run_make_own (P := Tryd.prog) w w.heap.size 84 5 i0 _ 1 Tryd.underlying84 hi0 hz0 hz1 .i64 .i64 m (by rw [hz2]; omega) (by simp only [maxLen]; omega) (Nat.le_refl _)
  have hO1 : OwnB w1 w.heap.size (.slice (some ⟨w.heap.size, 0, none⟩) 0 m) [] := ⟨⟨_, _, rfl⟩, by simp, o1⟩
  have hB1 : Below w.heap.size w w1 := (Below.refl w.heap.size w).grown g1 (Nat.le_refl _) (fun k hk => by cases hk)
  have hr1 := hr.fr (Fr.of_below hB1 (fun _ => False)) hhi (fun _ _ _ h => h)
  have hm1 : (n : Int) + 6 = (m : Int) := by omega
  have hm2 : (m : Int) ≤ 9223372036854775807 := by omega
  have hwm : IntKind.i64.wrap ((n : Int) + 6) = (m : Int) := by rw [IntKind.wrap_i64]; omega
  have H := Lib.hid (And.intro hO1 (And.intro hB1 (And.intro hr1 (And.intro hn (And.intro hm hl)))))
  rw [← hn]
  clear hO1 hB1 hr1 hr hl hn hm o1 g1
  go_enter Tryd.func49, Tryd.ntmps49
  go_upto_region 2 with (first
    | (at_builtin
       refine law_append8 (.tmp 7) (.tmp 8) w.heap.size lo hi (.slice (some ⟨w.heap.size, 0, none⟩) 0 m) [] bs A c rfl rfl rfl H.out.1 (by rw [← H.out.2.2.2.1]; rfl) H.out.2.2.1 (by have := H.out.2.2.2.2; simp; omega) H.out.2.1.size ?_
       simp only [List.length_nil, Nat.zero_add, List.nil_append]
       intro A1 c1 W1 o1 f1
       have hbA : Below W1.heap.size W1 (W1.alloc (.cells #[.int .u8 201, .int .u8 202, .int .u8 203, .int .u8 204, .int .u8 205, .int .u8 206] 5)) := (Below.refl W1.heap.size W1).alloc (Nat.le_refl _) _
       have hrm : Rd (W1.alloc (.cells #[.int .u8 201, .int .u8 202, .int .u8 203, .int .u8 204, .int .u8 205, .int .u8 206] 5)) 0 (W1.heap.size + 1) 1 (some ⟨W1.heap.size, 0, none⟩) marks.length (u8s marks) :=
         ⟨rfl, fun _ => ⟨_, rfl, Nat.zero_le _, by simp, fun j u hu => by rw [Addr.add_mid, Nat.zero_add, (Blk.new W1 5 _).cell j]; simpa [u8s, marks] using hu⟩⟩
       have H1 := Lib.hid (And.intro (o1.below hbA (Nat.le_refl _)) (And.intro hrm (And.intro ((H.out.2.1.trans f1.1).alloc (Nat.le_trans H.out.2.1.size f1.size) (.cells #[.int .u8 201, .int .u8 202, .int .u8 203, .int .u8 204, .int .u8 205, .int .u8 206] 5)) H.out.2.2.2)))
       clear o1 f1 hbA hrm)
    | (at_builtin
       refine law_append8 (.tmp 9) (.tmp 10) w.heap.size 0 (W1.heap.size + 1) (.slice A1 bs.length c1) bs marks (some ⟨W1.heap.size, 0, none⟩) 6 rfl rfl rfl H1.out.1 rfl H1.out.2.1 (by have := H1.out.2.2.2.2.2; simp [marks]; omega) H1.out.2.2.1.size ?_
       intro A2 c2 W2 o2 f2
       have H2 := Lib.hid (And.intro o2 (H1.out.2.2.1.trans f2.1))
       clear o2 f2)
    | fail)
  obtain ⟨b2, rfl, hcap⟩ : ∃ b2, A2 = some ⟨b2, 0, none⟩ ∧ (bs.length + marks.length ≤ c2 ∧ c2 ≤ 9223372036854775807) := by
    obtain ⟨_, _, h⟩ := H2.out.1
    rcases h.2 with ⟨_, h2⟩ | ⟨g, cap, cur, h1, _, _, h2, h3, _⟩
    · simp [marks] at h2
    · injection h1 with h1 h4 h5
      subst h1
      subst h5
      refine ⟨g, rfl, ?_, ?_⟩
      · simpa using h2
      · simpa [maxLen] using h3
  have hl6 : marks.length = 6 := rfl
  have hM : Marked W2 w.heap.size b2 c2 bs := ⟨by
    have h := H2.out.1
    have h22 := h.2.2
    rw [← List.length_append] at h22
    exact Rd.of_own h22 (fun g hg => (h22.lt g hg).2), by omega, hcap.2⟩
  have HM := Lib.hid hM
  have hn0 : (n : Int) ≤ (c2 : Int) := by have := H.out.2.2.2.1; omega
  have hn1 : n ≤ c2 := by omega
  have HN := Lib.hid H.out.2.2.2.1
  clear hM hl6 hcap
  go_wp2_with (fail)
  go_ret
  exact ⟨b2, c2, rfl, HM.out, H2.out.2⟩
set_option maxRecDepth 100000 in
set_option maxHeartbeats 1600000 in
theorem kept_any (w : World) (lo b c : Nat) (bs : List Nat) (h : Marked w lo b c bs) (hi d : Nat) (A : Option Addr) (hr : Rd w 0 hi 1 A bs.length (u8s bs)) (hA : A = none → d = 0) (h256 : ∀ x ∈ bs, x < 256) (hl : bs.length ≤ 140737488351232) :
    Calls Tryd.prog 51 #[.slice (some ⟨b, 0, none⟩) bs.length c, .slice A bs.length d] w fun e w' => e = .returned (.bool true) ∧ Below w.heap.size w w' := by
  obtain ⟨hm, hc1, hc2⟩ := h
  have e1 : (convert 84 9 (.slice (some ⟨b, 0, none⟩) bs.length c)).run Tryd.prog w.drew = .ok (.string (textOf bs)) w.drew :=
    conv_bytes (W := w.drew) (lo := lo) (hi := w.heap.size) h256 (hm.take.fr (Fr.of_below ((Below.refl w.heap.size w).drew) (fun _ => False)) (Nat.le_refl _) (fun _ _ _ h => h)) (fun h => by cases h)
  have e2 : (convert 84 9 (.slice A bs.length d)).run Tryd.prog w.drew = .ok (.string (textOf bs)) w.drew :=
    conv_bytes (W := w.drew) (lo := 0) (hi := hi) h256 (hr.keep (fun p _ _ => rfl)) hA
  have hcl : ∀ (k x : Nat), marks[k]? = some x → w.drew.cell? ⟨b, bs.length + k, none⟩ = some (.int .u8 x) := fun k x hk => by
    have := hm.at8 (k := bs.length + k) (x := x) (by rw [List.getElem?_append_right (by omega), Nat.add_sub_cancel_left]; exact hk)
    rw [Nat.zero_add] at this
    exact this
  have hmk : ∀ k : Nat, k < 6 → marks[k]? = some (201 + k) := fun k hk => by
    have : k = 0 ∨ k = 1 ∨ k = 2 ∨ k = 3 ∨ k = 4 ∨ k = 5 := by omega
    rcases this with rfl | rfl | rfl | rfl | rfl | rfl <;> rfl
  have HC := Lib.hid (fun k hk => hcl k _ (hmk k hk))
  obtain ⟨n, hn⟩ : ∃ n, n = bs.length := ⟨_, rfl⟩
  rw [← hn] at e1 e2 HC hl hc1 ⊢
  have hnc : ¬ (c : Int) < (n : Int) + 6 := by omega
  have hnc1 : (n : Int) ≤ c := by omega
  have hwn : IntKind.i64.wrap ((n : Int) + 6) = (n : Int) + 6 := by rw [IntKind.wrap_i64]; omega
  clear hcl hmk hm hr hn h256
  go_enter Tryd.func51, Tryd.ntmps51
  go_upto_region 2 with (fail)
  go_region_held3 (fun w' => (convert 84 9 (.slice (some ⟨b, 0, none⟩) n c)).run Tryd.prog w' = .ok (.string (textOf bs)) w' ∧ (convert 84 9 (.slice A n d)).run Tryd.prog w' = .ok (.string (textOf bs)) w') (go_keep) (fail)
  go_wp2_with (fail)
  go_loop [6] (fun v => ∃ (k : Nat), k ≤ 6 ∧ v = .int .i64 k) (fun v => 6 - (intOf v).toNat)
  case atStart => exact ⟨0, by omega, rfl⟩
  case round =>
    obtain ⟨k, hk, rfl⟩ := hrel
    by_cases hlt : k < 6
    · have hck := HC.out k hlt
      have hk1 : (n : Int) + (k : Int) < c := by omega
      have hk2 : (201 : Int) + (k : Int) = ((201 + k : Nat) : Int) := by omega
      have hk3 : IntKind.u8.wrap (((201 + k : Nat) : Int)) = ((201 + k : Nat) : Int) := wraps_u8 _ (by omega) (by omega)
      obtain ⟨x, hx⟩ : ∃ x, x = 201 + k := ⟨_, rfl⟩
      rw [← hx] at hck hk2 hk3
      have hx1 : (x : Int) ≤ 255 := by omega
      clear hx
      go_wp2_with (fail)
      go_round
      case rel => exact ⟨k + 1, by omega, by go_num⟩
      case measure => simp [intOf]; omega
    · obtain rfl : k = 6 := by omega
      go_wp2_with (fail)
      go_ret
      exact ⟨rfl, (Below.refl _ _).drew⟩
end Go.Proofs.YtnlncfjibbdimaaDoor
namespace Go.Proofs.YtnlncfjibbdimaaDoor
open Go.ChangeShapes Go.WideShapes Go.ChangeAt Go.RowKit Go.Deep
set_option linter.unusedSimpArgs false
set_option linter.unusedVariables false
end Go.Proofs.YtnlncfjibbdimaaDoor
namespace Go.Proofs.YtnlncfjibbdimaaDoor
open Go.RowKit
set_option linter.unusedSimpArgs false
set_option linter.unusedVariables false
end Go.Proofs.YtnlncfjibbdimaaDoor
namespace Go.Proofs.YtnlncfjibbdimaaDoor
open Go.ChangeShapes Go.WideShapes Go.ChangeAt Go.RowKit Go.Deep
set_option linter.unusedSimpArgs false
set_option linter.unusedVariables false
end Go.Proofs.YtnlncfjibbdimaaDoor

namespace Go.Proofs.YtnlncfjibbdimaaDoor
open Go.RowKit
set_option linter.unusedSimpArgs false
set_option linter.unusedVariables false
/-- The sentinels in the order of their numbers. -/
def G18 : List Nat := [5, 0, 6, 7, 2, 8, 9, 10, 11, 4, 12, 3, 13, 14, 15, 16, 17, 1]
def NumPost (q : Int) (w : World) (e : Ending) (w' : World) : Prop := e = .returned (.int .i64 q) ∧ Below w.heap.size w w'
set_option maxHeartbeats 400000 in
theorem num_nil (w : World) : Calls Tryd.prog 64 #[.nilIface] w (NumPost 0 w) := by
  go_enter Tryd.func64, Tryd.ntmps64
  go_wp2_with (fail)
  go_ret
  exact ⟨rfl, Below.refl _ _⟩
set_option maxRecDepth 100000 in
set_option maxHeartbeats 1600000 in
theorem num_any {w : World} {B : Nat} {A : Nat → Addr} (h : Errs w B A G18) (hB : B ≤ w.heap.size) (i : Nat) (g : Nat) (hi : G18[i]? = some g) : Calls Tryd.prog 64 #[errv (A g)] w (NumPost (i + 1) w) := by
  have hmem : ∀ k (hk : k < 18), G18[k] ∈ G18 := fun k hk => List.getElem_mem _
  have hi18 : i < 18 := (List.getElem?_eq_some_iff.1 hi).1
  have c5 := h.cell 5 (by decide)
  have c0 := h.cell 0 (by decide)
  have c6 := h.cell 6 (by decide)
  have c7 := h.cell 7 (by decide)
  have c2 := h.cell 2 (by decide)
  have c8 := h.cell 8 (by decide)
  have c9 := h.cell 9 (by decide)
  have c10 := h.cell 10 (by decide)
  have c11 := h.cell 11 (by decide)
  have c4 := h.cell 4 (by decide)
  have c12 := h.cell 12 (by decide)
  have c3 := h.cell 3 (by decide)
  have c13 := h.cell 13 (by decide)
  have c14 := h.cell 14 (by decide)
  have c15 := h.cell 15 (by decide)
  have c16 := h.cell 16 (by decide)
  have c17 := h.cell 17 (by decide)
  have c1 := h.cell 1 (by decide)
  have hn : errv (A g) ≠ .nilIface := by simp [errv]
  go_enter Tryd.func64, Tryd.ntmps64
  go_upto_region 4 with (fail)
  refine wp_letter (fun W => Below w.heap.size w W ∧ ∀ k gk, G18[k]? = some gk → W.cell? ⟨w.heap.size, k, none⟩ = some (errv (A gk)))
    ⟨(Below.refl _ _).alloc (Nat.le_refl _) _, fun k gk hk => ?_⟩ ?_
  · rw [(Blk.new w 34 _).cell k]
    have hk18 : k < 18 := (List.getElem?_eq_some_iff.1 hk).1
    match k, hk18, hk with
    | 0, _, hk => cases hk; rfl
    | 1, _, hk => cases hk; rfl
    | 2, _, hk => cases hk; rfl
    | 3, _, hk => cases hk; rfl
    | 4, _, hk => cases hk; rfl
    | 5, _, hk => cases hk; rfl
    | 6, _, hk => cases hk; rfl
    | 7, _, hk => cases hk; rfl
    | 8, _, hk => cases hk; rfl
    | 9, _, hk => cases hk; rfl
    | 10, _, hk => cases hk; rfl
    | 11, _, hk => cases hk; rfl
    | 12, _, hk => cases hk; rfl
    | 13, _, hk => cases hk; rfl
    | 14, _, hk => cases hk; rfl
    | 15, _, hk => cases hk; rfl
    | 16, _, hk => cases hk; rfl
    | 17, _, hk => cases hk; rfl
  rintro W ⟨hb, hc⟩
  have hE : Errs W B A G18 := h.fr (Fr.of_below hb (fun _ => False)) hB (fun _ _ h => h)
  obtain ⟨x, hx⟩ : ∃ x, x = w.heap.size := ⟨_, rfl⟩
  rw [← hx] at hc ⊢
  clear c5 c0 c6 c7 c2 c8 c9 c10 c11 c4 c12 c3 c13 c14 c15 c16 c17 c1 hx
  have HB := Lib.hid hb
  clear hb hmem
  have hnd : G18.Nodup := by decide
  go_wp2_with (fail)
  go_loop [29] (fun j => ∃ k : Nat, k ≤ i ∧ j = .int .i64 k) (fun j => 18 - (intOf j).toNat)
  case atStart => exact ⟨0, Nat.zero_le _, rfl⟩
  case round =>
    obtain ⟨k, hk, rfl⟩ := hrel
    have hk18 : k < 18 := by omega
    obtain ⟨gk, hgk⟩ : ∃ gk, G18[k]? = some gk := ⟨_, List.getElem?_eq_getElem hk18⟩
    have ck := hc k gk hgk
    by_cases he : k = i
    · subst he
      obtain rfl : g = gk := by rw [hi] at hgk; exact Option.some.inj hgk
      have heq := errEq_same (A g)
      clear hc hE h hnd
      go_wp2
      go_ret
      exact ⟨rfl, HB.out⟩
    · have hne : A g ≠ A gk := fun e => he (by
        have h1 := hE.inj g (List.mem_of_getElem? hi) gk (List.mem_of_getElem? hgk) e
        subst h1
        exact (List.getElem?_inj (l := G18) hk18 hnd).1 (hgk.trans hi.symm))
      have heq : (binOp .eql 34 (errv (A g)) (errv (A gk))).run Tryd.prog W = .ok (.bool false) W := errEq_other W hne (hE.blk g (List.mem_of_getElem? hi)) (hE.blk gk (List.mem_of_getElem? hgk))
      clear hc hE h hnd
      go_wp2
      go_round
      case rel => exact ⟨k + 1, by omega, by go_num⟩
      case measure => simp [intOf]; omega
end Go.Proofs.YtnlncfjibbdimaaDoor

namespace Go.Proofs.YtnlncfjibbdimaaDoor
open Go.RowKit
set_option linter.unusedSimpArgs false
set_option linter.unusedVariables false
/-- What was read is written as it was. -/
theorem pMsg_inv {xs : List Nat} {m : Msg} (h256 : ∀ x ∈ xs, x < 256) (h : pMsg xs = some m) : msgN m = xs ∧ chkM m = true ∧ (∀ x ∈ m.frame, x < 256) ∧ ∀ c ∈ m.led, c.Sized := by
  unfold pMsg at h
  obtain ⟨⟨ns, R1⟩, h1, h⟩ := bind_some_inv h
  obtain ⟨⟨lb, R2⟩, h2, h⟩ := bind_some_inv h
  obtain ⟨⟨f, R3⟩, h3, h⟩ := bind_some_inv h
  simp only at h2 h3 h
  split at h
  · rename_i hc
    obtain ⟨c1, c2, c3, c4⟩ := hc
    injection h with h
    obtain ⟨q1, q2, q3, q4⟩ := pNums_inv h256 h1
    obtain ⟨r1, r2, r3⟩ := pPiece_inv q4 h2
    obtain ⟨s1, s2, s3, s4⟩ := pBytes_inv8 r3 h3
    obtain ⟨g1, g2, g3, g4⟩ := rans_good r2 c1
    subst c2
    rw [List.append_nil] at s1
    have hn : (msgOf ns (rans lb).2 f).nums = ns := by
      obtain ⟨a, b, c, d, e, f', g, i, j, k, l, n, o, p, rfl⟩ := list14 q2
      have hp := q3 p (by simp)
      unfold inG at hp
      simp only [List.getD_cons_succ, List.getD_cons_zero] at c3
      simp only [Msg.nums, msgOf, List.getD_cons_succ, List.getD_cons_zero, decide_eq_true_eq]
      have : (if p = 1 then (1 : Int) else 0) = p := by split <;> omega
      rw [this]
    subst h
    refine ⟨?_, c4, s3, g4⟩
    unfold msgN
    rw [hn]
    show ns.flatMap encI ++ lpB (sealN (ledN (rans lb).2)) ++ lpB f = xs
    rw [g1, q1, r1, s1]
    unfold lpB
    simp only [List.append_assoc]
  · cases h
theorem pans_good {bs : List Nat} (h256 : ∀ x ∈ bs, x < 256) (h : (pans bs).1 = 0) : putM (pans bs).2 = bs ∧ chkM (pans bs).2 = true ∧ (∀ x ∈ (pans bs).2.frame, x < 256) ∧ ∀ c ∈ (pans bs).2.led, c.Sized := by
  by_cases h4 : bs.length < 4
  · rw [pans_few h4] at h; cases h
  · by_cases hs : sealN (bs.take (bs.length - 4)) = bs
    · obtain ⟨xs, hx⟩ : ∃ xs, xs = bs.take (bs.length - 4) := ⟨_, rfl⟩
      rw [← hx] at hs
      have hx256 : ∀ x ∈ xs, x < 256 := fun x h => h256 x (by rw [hx] at h; exact List.mem_of_mem_take h)
      subst hs
      rw [pans_seal] at h ⊢
      cases hr : pMsg xs with
      | none => rw [hr] at h; cases h
      | some m =>
        obtain ⟨i1, i2⟩ := pMsg_inv hx256 hr
        exact ⟨by simp only [putM]; rw [i1], i2⟩
    · rw [pans_sum (by omega) hs] at h; cases h
theorem pans_kinds (bs : List Nat) : (pans bs).1 = 0 ∨ ((pans bs).1 = 5 ∧ (pans bs).2 = zeroMsg) ∨ ((pans bs).1 = 6 ∧ (pans bs).2 = zeroMsg) := by
  unfold pans
  split
  · exact .inr (.inl ⟨rfl, rfl⟩)
  · split
    · split
      · exact .inr (.inl ⟨rfl, rfl⟩)
      · exact .inl rfl
    · exact .inr (.inr ⟨rfl, rfl⟩)
end Go.Proofs.YtnlncfjibbdimaaDoor
