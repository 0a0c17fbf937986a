/-
  The walk of the document's Read of a ledger.
-/
import Derived.Test.YtnlncfjibbdimaaDoorRefWire
import Derived.Test.YtnlncfjibbdimaaDoorReadX
import Derived.Test.YtnlncfjibbdimaaDoorDGet
namespace Go.Proofs.YtnlncfjibbdimaaDoor
open Go.RowKit
set_option linter.unusedSimpArgs false
set_option linter.unusedVariables false

theorem OwnB.capR {w : World} {lo n c : Nat} {A : Option Addr} {bs : List Nat} (h : OwnB w lo (.slice A n c) bs) : bs.length ≤ c ∧ c ≤ 9223372036854775807 := by
  rcases h.2.2.2 with ⟨h1, h2⟩ | ⟨_, _, _, h1, _, _, h2, h3, _⟩
  · injection h1 with _ _ h1
    omega
  · injection h1 with _ _ h1
    subst h1
    simp only [maxLen] at h3
    exact ⟨h2, h3⟩
theorem OwnB.frz {w w' : World} {lo z : Nat} {v : Value} {bs : List Nat} {t : TypeId} {cs : Array Value} (h : OwnB w lo v bs) (f : Fr w.heap.size (fun k => k = z) w w') (hB : Blk w z t cs) (ht : t ≠ 5) : OwnB w' lo v bs := by
  refine ⟨h.1, h.2.1, h.2.2.1, ?_⟩
  rcases h.2.2.2 with h7 | ⟨k, cap, cur, he, hb', hk, hrr⟩
  · exact .inl h7
  · have hk' : Blk w k 5 cur := hk
    have hzk : k ≠ z := fun e => by
      subst e
      unfold Blk at hB hk'
      rw [hB] at hk'
      injection hk' with hk'
      injection hk' with _ hk'
      exact ht hk'
    exact .inr ⟨k, cap, cur, he, hb', hk'.fr f hk'.lt hzk, hrr⟩
theorem OwnB.frT {w w' : World} {lo : Nat} {v : Value} {bs : List Nat} {e : TypeId} (h : OwnB w lo v bs) (f : Fr w.heap.size (fun k => ∃ cs, Blk w k e cs) w w') (he : 5 ≠ e) : OwnB w' lo v bs := by
  refine ⟨h.1, h.2.1, h.2.2.1, ?_⟩
  rcases h.2.2.2 with h7 | ⟨k, cap, cur, hq, hb', hk, hrr⟩
  · exact .inl h7
  · have hk' : Blk w k 5 cur := hk
    exact .inr ⟨k, cap, cur, hq, hb', hk'.frT f (Nat.le_refl _) he, hrr⟩
theorem pBytes_piece {most : Nat} {R : List Nat} (hR : ∀ x ∈ R, x < 256) (h : R.length ≤ most) : pBytes most R = pPiece R := by
  unfold pBytes pPiece
  cases hd : dec R with
  | none => rfl
  | some x =>
    obtain ⟨n, r⟩ := x
    have e := congrArg List.length (dec_inv hR hd)
    rw [List.length_append] at e
    simp only
    by_cases hn : n ≤ r.length
    · rw [if_pos ⟨by omega, hn⟩, if_pos hn]
    · rw [if_neg (fun h => hn h.2), if_neg hn]
theorem RGetPost.some_ {bs : List Nat} {w w' : World} {e : Ending} {c : Cmd} (h : RGetPost bs w e w') (hc : gcmd bs = some c) : ∃ pv, e = .returned (.tuple #[.agg (c.cells pv).toArray, .bool true]) ∧ OwnInts w' w.heap.size w'.heap.size pv c.parts ∧ Below w.heap.size w w' := by
  rcases h with ⟨d, pv, h1, h2, h3, h4, h5⟩ | ⟨h1, _⟩
  · rw [gcmd_some h1 h2] at hc
    injection hc with hc
    rw [← hc]
    exact ⟨pv, h3, h4, h5⟩
  · rw [gcmd_none h1] at hc
    cases hc
theorem RGetPost.none_ {bs : List Nat} {w w' : World} {e : Ending} (h : RGetPost bs w e w') (hc : gcmd bs = none) : e = .returned (.tuple #[.agg (zeroCmd.cells (.slice none 0 0)).toArray, .bool false]) ∧ Below w.heap.size w w' := by
  rcases h with ⟨d, pv, h1, h2, h3, h4, h5⟩ | ⟨h1, h2, h3⟩
  · rw [gcmd_some h1 h2] at hc
    cases hc
  · exact ⟨h2, h3⟩

theorem OwnLed.made (w : World) (lo : Nat) (hlo : lo ≤ w.heap.size) : OwnLed (w.alloc (.cells #[] 81)) lo (w.alloc (.cells #[] 81)).heap.size (.slice (some ⟨w.heap.size, 0, none⟩) 0 0) [] :=
  ⟨[], ⟨⟨rfl, .inr ⟨w.heap.size, 0, #[], rfl, hlo, heap_alloc_new w _, Nat.le_refl _, Nat.zero_le _, rfl, rfl⟩⟩, fun g hg => by simp [Value.ownBlock] at hg; subst hg; simp⟩, by simp, rfl, fun i r c h _ => by simp at h⟩

/-- What the document's Read answers of opened bytes. -/
def RReadIn (xs : List Nat) (w : World) (e : Ending) (w' : World) : Prop :=
  (rdLed xs = none ∧ e = .returned (.tuple #[.slice none 0 0, .int .i64 5])) ∨ ∃ l v, rdLed xs = some l ∧ e = .returned (.tuple #[v, .int .i64 0]) ∧ OwnLed w' w.heap.size w'.heap.size v l
def RReadLPost (bs : List Nat) (w : World) (e : Ending) (w' : World) : Prop :=
  Below w.heap.size w w' ∧
  ((bs.length < 4 ∧ e = .returned (.tuple #[.slice none 0 0, .int .i64 5])) ∨
   (4 ≤ bs.length ∧ ¬ sealN (bs.take (bs.length - 4)) = bs ∧ e = .returned (.tuple #[.slice none 0 0, .int .i64 6])) ∨
   (∃ xs, bs = sealN xs ∧ RReadIn xs w e w'))

set_option maxRecDepth 100000 in
set_option maxHeartbeats 6400000 in
theorem rreadL_any (w : World) (hi c : Nat) (A : Option Addr) (bs : List Nat) (hr : Rd w 0 hi 1 A bs.length (u8s bs)) (hhi : hi ≤ w.heap.size) (hl : bs.length ≤ 140737488351232) (hc : bs.length ≤ c ∧ c ≤ 9223372036854775807) (hA : A = none → c = 0) (h256 : ∀ x ∈ bs, x < 256) :
    Calls Tryd.prog 73 #[.slice A bs.length c] w (RReadLPost bs w) := by
  have k138 := ropen_any w hi c A bs hr hhi hl hc hA h256
  have HK := Lib.hid k138
  have H := Lib.hid (And.intro hl h256)
  clear hr hhi hl hc h256 hA k138
  go_enter Tryd.func73, Tryd.ntmps73
  go_upto_region 2 with (first | (go_at_call 138; refine HK.out.mono ?_; rintro e w1 ⟨b1, ⟨hs, rfl⟩ | ⟨hs1, hs2, rfl⟩ | ⟨xs, A1, c1, hbs, rfl, o1⟩⟩) | fail)
  · go_wp2_with (fail)
    go_ret2
    exact ⟨b1, .inl ⟨hs, rfl⟩⟩
  · go_wp2_with (fail)
    go_ret2
    exact ⟨b1, .inr (.inl ⟨hs1, hs2, rfl⟩)⟩
  · have hxl : xs.length + 4 ≤ 140737488351232 := by have := H.out.1; rw [hbs, sealN_length] at this; exact this
    have hx256 : ∀ x ∈ xs, x < 256 := fun x hx => H.out.2 x (by rw [hbs]; exact List.mem_append_left _ hx)
    have hds : DS xs c1 := ⟨by omega, o1.capR, hx256⟩
    have hob : ∀ k, (Value.slice A1 xs.length c1).ownBlock = some k → k < w1.heap.size := fun k hk => (o1.2.2.lt k hk).2
    have H1 := Lib.hid (And.intro b1 (And.intro hbs (And.intro hx256 (And.intro hds (And.intro hob o1)))))
    obtain ⟨n, hn⟩ : ∃ n, n = xs.length := ⟨_, rfl⟩
    have HN := Lib.hid (And.intro hn hxl)
    -- the reader over an own row: as a contract asks it
    have hmkD : ∀ (W : World) (g q : Nat), OwnB W w.heap.size (.slice A1 xs.length c1) xs → Blk W g 192 #[.slice A1 xs.length c1, .int .i64 q] → w1.heap.size ≤ g → q ≤ xs.length → DRd W w1.heap.size g xs A1 c1 q := fun W g q ho hb hg hq =>
      ⟨hb, (Rd.of_own ho.2.2 hob).wider (Nat.zero_le _) (Nat.le_refl _), hg, hq⟩
    have HD := Lib.hid hmkD
    clear hxl hx256 hds hob o1 b1 hbs hmkD
    rw [← hn]
    clear hn
    go_upto_region 5 with (fail)
    refine wp_letter (fun W => Below w.heap.size w W ∧ OwnB W w.heap.size (.slice A1 xs.length c1) xs ∧ Blk W w1.heap.size 192 #[.slice A1 xs.length c1, .int .i64 (0 : Nat)])
      ⟨H1.out.1.alloc H1.out.1.size _, H1.out.2.2.2.2.2.below ((Below.refl w1.heap.size w1).alloc (Nat.le_refl _) _) (Nat.le_refl _), by rw [← HN.out.1]; exact Blk.new w1 192 _⟩ ?_
    obtain ⟨g, hg⟩ : ∃ g, g = w1.heap.size := ⟨_, rfl⟩
    rw [← hg]
    rintro W2 hW2
    have H2 := Lib.hid hW2
    have HGG := Lib.hid (show w1.heap.size ≤ g ∧ w.heap.size ≤ g from ⟨Nat.le_of_eq hg.symm, by rw [hg]; exact H1.out.1.size⟩)
    clear hW2 hg
    have k139 := rNum_any W2 w1.heap.size g 0 c1 4096 A1 xs (HD.out W2 g 0 H2.out.2.1 H2.out.2.2 HGG.out.1 (Nat.zero_le _)) H1.out.2.2.2.1 (by omega)
    have HK2 := Lib.hid k139
    clear k139
    go_upto_region 6 with (first | (go_at_call 139; refine HK2.out.mono ?_; rintro e w3 (⟨m, q0, hd, hm, rfl, D3, f3⟩ | ⟨hbad, rfl, D3, f3⟩)) | fail)
    · have hb3 : Below w.heap.size w w3 := ((Fr.of_below H2.out.1 (fun _ => False)).trans (f3.mono H2.out.1.size (S' := fun _ => False) (fun k hk he => by have := HGG.out.2; omega))).below (fun _ _ h => h)
      have ho3 := H2.out.2.1.frz f3 H2.out.2.2 (by decide)
      rw [List.drop_zero] at hd
      have HLD := Lib.hid (rdLed_of hd hm)
      have H3 := Lib.hid (And.intro hb3 (And.intro ho3 (And.intro D3.1 (show q0 ≤ xs.length from D3.2.2.2))))
      have hm63 : (m : Int) ≤ 4096 := by omega
      clear hb3 ho3 D3 f3 hd
      go_wp2_with (fail)
      go_loopw [8] (fun out wr => ∃ (A' : Option Addr) (c' : Nat) (l : List Cmd) (q : Nat), l.length ≤ m ∧ out = .slice A' l.length c' ∧ pCmds l.length (xs.drop q0) = some (l, xs.drop q) ∧ q ≤ xs.length ∧ OwnB wr w.heap.size (.slice A1 xs.length c1) xs ∧ Blk wr g 192 #[.slice A1 xs.length c1, .int .i64 q] ∧
        OwnLed wr w.heap.size wr.heap.size (.slice A' l.length c') l ∧ Below w.heap.size w wr) (fun out _ => m - (match out with | .slice _ k _ => k | _ => 0))
      case atStart => exact ⟨some ⟨w3.heap.size, 0, none⟩, 0, [], q0, Nat.zero_le _, rfl, rfl, H3.out.2.2.2, H3.out.2.1.below ((Below.refl w3.heap.size w3).alloc (Nat.le_refl _) _) (Nat.le_refl _), H3.out.2.2.1.alloc _, OwnLed.made w3 _ H3.out.1.size, H3.out.1.alloc H3.out.1.size _⟩
      case round =>
        obtain ⟨A', c', l, q, hk, rfl, hpc, hq, hOB, hBg, hO, hB⟩ := hrel
        have HS := Lib.hid (And.intro hpc (And.intro hq (And.intro hOB (And.intro hBg (And.intro hO hB)))))
        have cg := hBg.cell 1
        clear hpc hq hOB hBg hO hB
        by_cases hlt : (l.length : Int) < m
        · have k113 := rBytes_any wr w1.heap.size g q c1 n A1 xs (HD.out wr g q HS.out.2.2.1 HS.out.2.2.2.1 HGG.out.1 HS.out.2.1) H1.out.2.2.2.1 (by have := HN.out; omega)
          have HK3 := Lib.hid k113
          have hpe : pBytes n (xs.drop q) = pPiece (xs.drop q) := pBytes_piece (fun x hx => H1.out.2.2.1 x (List.mem_of_mem_drop hx)) (by rw [List.length_drop]; have := HN.out.1; omega)
          have HPE := Lib.hid hpe
          clear k113 hpe cg
          go_upto_region 11 with (first | (go_at_call 113; refine HK3.out.mono ?_; rintro e w4 (⟨one, q4, A4, c4, hp4, rfl, o4, D4, f4⟩ | ⟨hbadp, rfl, D4, f4⟩)) | fail)
          · have hb4 : Below w.heap.size w w4 := ((Fr.of_below HS.out.2.2.2.2.2 (fun _ => False)).trans (f4.mono HS.out.2.2.2.2.2.size (S' := fun _ => False) (fun k hk he => by have := HGG.out.2; omega))).below (fun _ _ h => h)
            rw [HPE.out] at hp4
            have hone : (∀ x ∈ one, x < 256) ∧ one.length ≤ 140737488355328 := by
              unfold pPiece at hp4
              have hd256 : ∀ x ∈ xs.drop q, x < 256 := fun x hx => H1.out.2.2.1 x (List.mem_of_mem_drop hx)
              cases hd : dec (xs.drop q) with
              | none => rw [hd] at hp4; cases hp4
              | some y =>
                obtain ⟨n1, r1⟩ := y
                rw [hd] at hp4
                simp only at hp4
                split at hp4
                · injection hp4 with hp4
                  injection hp4 with e1 _
                  have hr := dec_rest hd256 hd
                  have e := congrArg List.length (dec_inv hd256 hd)
                  rw [List.length_append, List.length_drop] at e
                  refine ⟨fun x hx => hr x (by rw [← e1] at hx; exact List.mem_of_mem_take hx), ?_⟩
                  rw [← e1, List.length_take]
                  have := HN.out
                  omega
                · cases hp4
            have H4 := Lib.hid (And.intro hb4 (And.intro (HS.out.2.2.1.frz f4 HS.out.2.2.2.1 (by decide)) (And.intro D4.1 (And.intro (show q4 ≤ xs.length from D4.2.2.2) (And.intro ((HS.out.2.2.2.2.1.frz f4 HS.out.2.2.2.1 (by decide) (by decide)).wider (Nat.le_refl _) f4.size) (And.intro hp4 hone))))))
            have k50 := rget_any w4 w4.heap.size c4 A4 one ((Rd.of_own o4.2.2 (fun g hg => (o4.2.2.lt g hg).2)).wider (Nat.zero_le _) (Nat.le_refl _)) (Nat.le_refl _) ⟨hone.2, o4.capR, hone.1⟩
            have HK4 := Lib.hid k50
            clear hb4 hp4 hone o4 D4 f4 k50
            cases hgc : gcmd one with
            | none =>
              have hnone : rdLed xs = none := by rw [HLD.out, pCmds_stop HS.out.1 (.inr ⟨one, _, H4.out.2.2.2.2.2.1, hgc⟩) (by omega)]; rfl
              have HNO := Lib.hid (And.intro hgc hnone)
              clear hgc hnone
              have hzc : (Tryd.prog.info? 81).map (·.size) = some zCells.size := cmd_info
              have hzo : zCells.all (·.oneCell') = true := by simp [zCells, Value.oneCell']
              go_wp2_with (first
                | (go_at_call 50; refine HK4.out.mono ?_; rintro e w5 hg5; obtain ⟨rfl, b5⟩ := hg5.none_ HNO.out.1; have H6 := Lib.hid ((H4.out.1.trans (b5.mono H4.out.1.size)).alloc (H4.out.1.trans (b5.mono H4.out.1.size)).size (.cells zCells 81)); clear b5 hg5)
                | ((with_reducible refine law_store_fresh 81 (.tmp 11) (.tmp 50) w5 81 _ zCells ?_ ?_ rfl hzc ?_ hzo ?_); rfl; rfl; rfl)
                | fail)
              go_ret2
              exact ⟨H6.out, .inr (.inr ⟨xs, H1.out.2.1, .inl ⟨HNO.out.2, rfl⟩⟩)⟩
            | some cm =>
              have HGC := Lib.hid hgc
              clear hgc
              obtain ⟨i1, z1, hi1, hz11, hz12, hz13, hz14⟩ := cmd_info'
              go_upto_region 16 with (first
                | (go_at_call 50
                   refine HK4.out.mono ?_
                   rintro e w5 hg5
                   obtain ⟨pv, rfl, ho5, b5⟩ := hg5.some_ HGC.out
                   have hbA : Below w5.heap.size w5 (w5.alloc (.cells (cm.cells pv).toArray 81)) := (Below.refl w5.heap.size w5).alloc (Nat.le_refl _) _
                   have hb45 := b5.trans (hbA.mono b5.size)
                   have hO6 := (H4.out.2.2.2.2.1.fr (Fr.of_below hb45 (fun _ => False)) (Nat.le_refl _) (fun _ _ _ h => h)).wider (Nat.le_refl _) hb45.size
                   have hp6 := (ho5.fr (Fr.of_below hbA (fun _ => False)) (Nat.le_refl _) (fun _ _ _ h => h)).wider H4.out.1.size hbA.size
                   have hone := intsAt_oneW ho5.at_
                   have H6 := Lib.hid (And.intro hO6 (And.intro hp6 (And.intro (H4.out.1.trans (hb45.mono H4.out.1.size)) (And.intro (H4.out.2.1.below hb45 (Nat.le_refl _)) (And.intro (H4.out.2.2.1.below hb45 H4.out.2.2.1.lt) hone)))))
                   clear ho5 b5 hg5 hbA hb45 hO6 hp6 hone)
                | ((with_reducible refine law_store_fresh 81 (.tmp 11) (.tmp 50) w5 81 _ (cm.cells pv).toArray ?_ ?_ rfl ?_ ?_ H6.out.2.2.2.2.2 ?_); rfl; rfl; exact cmd_info; rfl)
                | fail)
              refine wp_letter (fun W => OwnLed W w.heap.size W.heap.size (.slice A' l.length c') l ∧ OwnInts W w.heap.size W.heap.size pv cm.parts ∧ Below w.heap.size w W ∧ OwnB W w.heap.size (.slice A1 xs.length c1) xs ∧ Blk W g 192 #[.slice A1 xs.length c1, .int .i64 q4] ∧ Blk W w5.heap.size 81 (cm.cells pv).toArray)
                ⟨H6.out.1, H6.out.2.1, H6.out.2.2.1, H6.out.2.2.2.1, H6.out.2.2.2.2.1, Blk.new w5 81 _⟩ ?_
              rintro W6 hW6
              have hrx := hW6.2.2.2.2.2.range
              have G6 := Lib.hid hW6
              clear hW6
              go_wp2_with (first
                | ((with_reducible refine law_load 81 (.tmp 11) w5.heap.size 0 (cm.cells pv) ?_ hrx Tryd.underlying81 ?_ ?_ ?_); rfl; rfl; exact cmd_info)
                | ((with_reducible refine law_buildSlice1 46 81 (.tmp 55) i1 z1 (cm.cells pv).toArray 18 ?_ Tryd.underlying46 hi1 hz11 hz12 hz14 ?_ (by decide) (by decide) ?_); rfl; rfl)
                | (at_builtin
                   refine law_append81 (.tmp 54) (.tmp 56) w.heap.size (.slice A' l.length c') l cm pv rfl rfl rfl G6.out.1 G6.out.2.1 G6.out.2.2.1.size rfl (by omega) ?_
                   intro A7 c7 W7 o7 b7 f7
                   have H7 := Lib.hid (And.intro o7 (And.intro (G6.out.2.2.1.trans b7) (And.intro (G6.out.2.2.2.1.frT f7 (by decide)) (G6.out.2.2.2.2.1.frT f7 (Nat.le_refl _) (by decide)))))
                   clear o7 b7 f7)
                | fail)
              go_roundw
              case rel => exact ⟨A7, c7, l ++ [cm], q4, by rw [List.length_append]; have : [cm].length = 1 := rfl; omega, by rw [List.length_append]; rfl, by rw [List.length_append]; exact pCmds_snoc HS.out.1 H4.out.2.2.2.2.2.1 HGC.out, H4.out.2.2.2.1, H7.out.2.2.1, H7.out.2.2.2, by rw [List.length_append]; exact H7.out.1, H7.out.2.1⟩
              case measure => simp; omega
          · have hb4 : Below w.heap.size w w4 := ((Fr.of_below HS.out.2.2.2.2.2 (fun _ => False)).trans (f4.mono HS.out.2.2.2.2.2.size (S' := fun _ => False) (fun k hk he => by have := HGG.out.2; omega))).below (fun _ _ h => h)
            rw [HPE.out] at hbadp
            have H4 := Lib.hid (And.intro hb4 (show rdLed xs = none by rw [HLD.out, pCmds_stop HS.out.1 (.inl hbadp) (by omega)]; rfl))
            clear hb4 hbadp D4 f4
            go_wp2_with (fail)
            go_ret2
            exact ⟨H4.out.1, .inr (.inr ⟨xs, H1.out.2.1, .inl ⟨H4.out.2, rfl⟩⟩)⟩
        · have hkm : l.length = m := by omega
          have hpc := HS.out.1
          rw [hkm] at hpc
          by_cases hR : (q : Int) = (n : Int)
          · have hdr : xs.drop q = [] := List.drop_eq_nil_of_le (by have := HN.out.1; omega)
            have hsome : rdLed xs = some l := by rw [HLD.out, hpc]; simp only [Option.bind_some]; rw [if_pos hdr]
            have HSM := Lib.hid hsome
            clear hsome hpc hdr hkm
            go_wp2_with (fail)
            go_ret2
            exact ⟨HS.out.2.2.2.2.2, .inr (.inr ⟨xs, H1.out.2.1, .inr ⟨l, _, HSM.out, rfl, HS.out.2.2.2.2.1⟩⟩)⟩
          · have hdr : ¬ xs.drop q = [] := fun h => by
              have e := congrArg List.length h
              rw [List.length_drop] at e
              have := HN.out.1
              have := HS.out.2.1
              simp at e
              omega
            have hnone : rdLed xs = none := by rw [HLD.out, hpc]; simp only [Option.bind_some]; rw [if_neg hdr]
            have HNO := Lib.hid hnone
            have hR' : ((q : Int) != (n : Int)) = true := by simpa using hR
            clear hnone hpc hdr hkm
            go_wp2_with (fail)
            go_ret2
            exact ⟨HS.out.2.2.2.2.2, .inr (.inr ⟨xs, H1.out.2.1, .inl ⟨HNO.out, rfl⟩⟩)⟩
    · have hb3 : Below w.heap.size w w3 := ((Fr.of_below H2.out.1 (fun _ => False)).trans (f3.mono H2.out.1.size (S' := fun _ => False) (fun k hk he => by have := HGG.out.2; omega))).below (fun _ _ h => h)
      rw [List.drop_zero] at hbad
      have H3 := Lib.hid (And.intro hb3 (rdLed_none hbad))
      clear hb3 D3 f3 hbad
      go_wp2_with (fail)
      go_ret2
      exact ⟨H3.out.1, .inr (.inr ⟨xs, H1.out.2.1, .inl ⟨H3.out.2, rfl⟩⟩)⟩

end Go.Proofs.YtnlncfjibbdimaaDoor
