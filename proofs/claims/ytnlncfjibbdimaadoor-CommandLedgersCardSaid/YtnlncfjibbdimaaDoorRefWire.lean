/-
  The walks of the document's Sum, Seal and Open.
-/
import Derived.Test.YtnlncfjibbdimaaDoorWireX
namespace Go.Proofs.YtnlncfjibbdimaaDoor
open Go.RowKit
set_option linter.unusedSimpArgs false
set_option linter.unusedVariables false

set_option maxRecDepth 100000 in
set_option maxHeartbeats 1600000 in
theorem rsum_any (w : World) (hi c : Nat) (A : Option Addr) (bs : List Nat) (hr : Rd w 0 hi 1 A bs.length (u8s bs)) (hl : bs.length ≤ 140737488355328) (h256 : ∀ x ∈ bs, x < 256) :
    Calls Tryd.prog 162 #[.slice A bs.length c] w fun e w' => e = .returned (.int .u32 (sumN bs)) ∧ w' = w := by
  obtain ⟨n, hn⟩ : ∃ n, n = bs.length := ⟨_, rfl⟩
  have HR := Lib.hid (And.intro hr (And.intro h256 hn))
  rw [← hn] at hl ⊢
  clear hr h256 hn
  go_enter Tryd.func162, Tryd.ntmps162
  go_wp2_with (fail)
  go_loop [3, 8] (fun s i => ∃ (k sN : Nat), k ≤ n ∧ i = .int .i64 k ∧ s = .int .u64 sN ∧ sN = sumN (bs.take k)) (fun _ i => n - (intOf i).toNat)
  case atStart => exact ⟨0, 2166136261, Nat.zero_le _, rfl, rfl, rfl⟩
  case round =>
    obtain ⟨k, sN, hk, rfl, rfl, hs⟩ := hrel
    have hs32 : sN < 4294967296 := by rw [hs]; exact sumN_lt _
    by_cases hlt : k < n
    · obtain ⟨x, hx⟩ : ∃ x, bs[k]? = some x := ⟨_, List.getElem?_eq_getElem (by rw [← HR.out.2.2]; exact hlt)⟩
      obtain ⟨b, o, rfl⟩ := HR.out.1.addr (by rw [← HR.out.2.2]; omega)
      have hck := HR.out.1.at8 hx
      have hx256 := HR.out.2.1 x (List.mem_of_getElem? hx)
      have hxor := u64_xor_nat sN x (by omega) (by omega)
      have hx32 : sN ^^^ x < 2 ^ 32 := Nat.xor_lt_two_pow (by omega) (by omega)
      obtain ⟨u, hu⟩ : ∃ u, u = sN ^^^ x := ⟨_, rfl⟩
      rw [← hu] at hxor hx32
      obtain ⟨m, hm⟩ : ∃ m : Nat, m = sumN (bs.take (k + 1)) := ⟨_, rfl⟩
      obtain ⟨t, ht⟩ : ∃ t : Nat, t = u * 16777619 := ⟨_, rfl⟩
      have htm : m = t % 4294967296 := by rw [hm, sumN_take hx, ← hs, sumStep, ← hu, ← ht]
      have hmul : IntKind.u64.wrap ((u : Int) * 16777619) = (t : Int) := by
        rw [IntKind.wrap_u64]
        omega
      have hrem : (t : Int).tmod 4294967296 = (m : Int) := by
        rw [Int.tmod_eq_emod_of_nonneg (by omega)]
        omega
      have HM := Lib.hid hm
      clear hx hs hm htm ht hu
      go_wp2_with (fail)
      go_round
      case rel => exact ⟨k + 1, m, by omega, by go_num, rfl, HM.out⟩
      case measure => simp [intOf]; omega
    · have hall : bs.take k = bs := by rw [show k = bs.length by have := HR.out.2.2; omega, List.take_length]
      rw [hall] at hs
      have HS := Lib.hid hs
      have h32 : (sN : Int) % 4294967296 = sN := by omega
      clear hs hall
      go_wp2_with (fail)
      go_ret
      exact ⟨by rw [← HS.out]; rfl, rfl⟩

set_option maxRecDepth 100000 in
set_option maxHeartbeats 1600000 in
theorem rseal_any (w : World) (hi c : Nat) (A : Option Addr) (bs : List Nat) (hr : Rd w 0 hi 1 A bs.length (u8s bs)) (hhi : hi ≤ w.heap.size) (hl : bs.length + 4 ≤ 140737488355328) (h256 : ∀ x ∈ bs, x < 256) :
    Calls Tryd.prog 134 #[.slice A bs.length c] w (NewB w (sealN bs)) := by
  have k160 := rsum_any w hi c A bs hr (by omega) h256
  obtain ⟨s, hs⟩ : ∃ s, s = sumN bs := ⟨_, rfl⟩
  have hs32 : s < 4294967296 := by rw [hs]; exact sumN_lt bs
  rw [← hs] at k160
  obtain ⟨n, hn⟩ : ∃ n, n = bs.length := ⟨_, rfl⟩
  have HK := Lib.hid k160
  have H := Lib.hid (And.intro hr (And.intro hhi (And.intro hl (And.intro hn hs))))
  obtain ⟨p1, hp1⟩ : ∃ p, p = s / 16777216 := ⟨_, rfl⟩
  obtain ⟨p2, hp2⟩ : ∃ p, p = s / 65536 := ⟨_, rfl⟩
  obtain ⟨p3, hp3⟩ : ∃ p, p = s / 256 := ⟨_, rfl⟩
  have e1 := shr_u32 s p1 24 (by omega) (by rw [hp1])
  have e2 := shr_u32 s p2 16 (by omega) (by rw [hp2])
  have e3 := shr_u32 s p3 8 (by omega) (by rw [hp3])
  simp only [Int.cast_ofNat_Int] at e1 e2 e3
  have hcs : (#[.int .u8 ((s : Int) / 16777216), .int .u8 ((s : Int) / 65536 % 256), .int .u8 ((s : Int) / 256 % 256), .int .u8 ((s : Int) % 256)] : Array Value) = (u8s (be4 s)).toArray := by
    have e : (s : Int) / 16777216 = (s : Int) / 16777216 % 256 := by omega
    rw [e]
    simp [u8s, be4]
  have HCS := Lib.hid hcs
  rw [← hn] at HK ⊢
  clear k160 hr hhi hl hs hn hcs
  go_enter Tryd.func134, Tryd.ntmps134
  go_wp2_with (first
    | (go_at_call 162; refine HK.out.mono ?_; rintro e w1 ⟨rfl, hw⟩; subst w1)
    | (at_builtin
       refine law_append8 (.tmp 6) (.tmp 7) w.heap.size 0 hi (.slice (some ⟨w.heap.size, 0, none⟩) 0 0) [] bs A c rfl rfl rfl (OwnB.made w) (by rw [← H.out.2.2.2.1]; rfl) (H.out.1.fr (Fr.of_below ((Below.refl w.heap.size w).alloc (Nat.le_refl _) _) (fun _ => False)) H.out.2.1 (fun _ _ _ h => h)) (by have := H.out.2.2.1; simp; omega) (by simp) ?_
       simp only [List.length_nil, Nat.zero_add, List.nil_append]
       intro A1 c1 W1 o1 f1
       have hrd : Rd (W1.alloc (.cells #[.int .u8 ((s : Int) / 16777216), .int .u8 ((s : Int) / 65536 % 256), .int .u8 ((s : Int) / 256 % 256), .int .u8 ((s : Int) % 256)] 5)) 0 (W1.heap.size + 1) 1 (some ⟨W1.heap.size, 0, none⟩) (be4 s).length (u8s (be4 s)) :=
         ⟨by simp [u8s], fun _ => ⟨_, rfl, Nat.zero_le _, by simp, fun j u hu => by
           rw [Addr.add_mid, Nat.zero_add, (Blk.new W1 5 _).cell j, HCS.out]
           simpa using hu⟩⟩
       have hb1 : Below w.heap.size w W1 := ((Below.refl w.heap.size w).alloc (Nat.le_refl _) _).trans f1.1
       have H1 := Lib.hid (And.intro (o1.below ((Below.refl W1.heap.size W1).alloc (Nat.le_refl _) (.cells #[.int .u8 ((s : Int) / 16777216), .int .u8 ((s : Int) / 65536 % 256), .int .u8 ((s : Int) / 256 % 256), .int .u8 ((s : Int) % 256)] 5)) (Nat.le_refl _)) (And.intro hrd (hb1.alloc hb1.size (.cells #[.int .u8 ((s : Int) / 16777216), .int .u8 ((s : Int) / 65536 % 256), .int .u8 ((s : Int) / 256 % 256), .int .u8 ((s : Int) % 256)] 5))))
       clear o1 f1 hrd hb1)
    | (at_builtin
       refine law_append8 (.tmp 8) (.tmp 20) w.heap.size 0 (W1.heap.size + 1) (.slice A1 bs.length c1) bs (be4 s) (some ⟨W1.heap.size, 0, none⟩) 4 rfl rfl rfl H1.out.1 rfl H1.out.2.1 (by have := H.out.2.2.1; rw [be4_length]; exact this) H1.out.2.2.size ?_
       intro A2 c2 W2 o2 f2
       have H2 := Lib.hid (And.intro o2 (H1.out.2.2.trans f2.1))
       clear o2 f2)
    | fail)
  go_ret
  refine ⟨_, rfl, ?_, H2.out.2⟩
  unfold sealN
  rw [← H.out.2.2.2.2]
  exact H2.out.1

/-- What the document's Open answers. -/
def ROpenPost (bs : List Nat) (w : World) (e : Ending) (w' : World) : Prop :=
  Below w.heap.size w w' ∧
  ((bs.length < 4 ∧ e = .returned (.tuple #[.slice none 0 0, .int .i64 5])) ∨
   (4 ≤ bs.length ∧ ¬ sealN (bs.take (bs.length - 4)) = bs ∧ e = .returned (.tuple #[.slice none 0 0, .int .i64 6])) ∨
   (∃ xs A' c', bs = sealN xs ∧ e = .returned (.tuple #[.slice A' xs.length c', .int .i64 0]) ∧ OwnB w' w.heap.size (.slice A' xs.length c') xs))

set_option maxRecDepth 100000 in
set_option maxHeartbeats 3200000 in
theorem ropen_any (w : World) (hi c : Nat) (A : Option Addr) (bs : List Nat) (hr : Rd w 0 hi 1 A bs.length (u8s bs)) (hhi : hi ≤ w.heap.size) (hl : bs.length ≤ 140737488351232) (hc : bs.length ≤ c ∧ c ≤ 9223372036854775807) (hA : A = none → c = 0) (h256 : ∀ x ∈ bs, x < 256) :
    Calls Tryd.prog 138 #[.slice A bs.length c] w (ROpenPost bs w) := by
  by_cases h4 : bs.length < 4
  · have hlt : (bs.length : Int) < 4 := by omega
    have HL := Lib.hid h4
    clear hr hhi h256 h4
    go_enter Tryd.func138, Tryd.ntmps138
    go_wp2_with (fail)
    go_ret2
    exact ⟨Below.refl _ _, .inl ⟨HL.out, rfl⟩⟩
  · obtain ⟨m, hm⟩ : ∃ m, m = bs.length - 4 := ⟨_, rfl⟩
    obtain ⟨n, hn⟩ : ∃ n, n = bs.length := ⟨_, rfl⟩
    have hn4 : ¬ (n : Int) < 4 := by omega
    have hnm : (n : Int) - 4 = (m : Int) := by omega
    have hm0 : (0 : Int) ≤ (m : Int) := by omega
    obtain ⟨b, o, rfl⟩ := hr.addr (by omega)
    obtain ⟨xs, hxs⟩ : ∃ xs, xs = bs.take m := ⟨_, rfl⟩
    have hxl : xs.length = m := by rw [hxs, List.length_take]; omega
    have hrx : ∀ W, Below w.heap.size w W → Rd W 0 hi 1 (some ⟨b, o, none⟩) xs.length (u8s xs) := fun W f => by
      have := (hr.fr (Fr.of_below f (fun _ => False)) hhi (fun _ _ _ h => h)).sub (p := 0) (xs := xs) (fun j x hj => by
        rw [hxs, List.getElem?_take] at hj
        split at hj
        · rw [Nat.zero_add]; exact hj
        · cases hj)
      rw [Nat.add_zero] at this
      exact this
    have hx256 : ∀ x ∈ xs, x < 256 := fun x hx => h256 x (by rw [hxs] at hx; exact List.mem_of_mem_take hx)
    have hs256 : ∀ x ∈ sealN xs, x < 256 := fun x hx => by
      rcases List.mem_append.1 hx with h | h
      · exact hx256 x h
      · simp only [be4, List.mem_cons, List.not_mem_nil, or_false] at h
        omega
    have k134 := rseal_any w.drew hi m (some ⟨b, o, none⟩) xs ((hrx w (Below.refl _ _)).keep (fun _ _ _ => rfl)) hhi (by omega) hx256
    rw [hxl] at k134
    have hV : ∀ W, Below w.heap.size w W → (convert 84 9 (.slice (some ⟨b, o, none⟩) bs.length c)).run Tryd.prog W = .ok (.string (textOf bs)) W := fun W f =>
      conv_bytes h256 (hr.fr (Fr.of_below f (fun _ => False)) hhi (fun _ _ _ h => h)) (fun h => by cases h)
    have hq : ((textOf (sealN xs)).toList == (textOf bs).toList) = decide (sealN xs = bs) := textOf_eq hs256 h256
    have H := Lib.hid (And.intro hr (And.intro hhi (And.intro hxs (And.intro hxl (And.intro hm hn)))))
    have HR := Lib.hid (And.intro hrx (And.intro hx256 hs256))
    have HK := Lib.hid k134
    rw [← hn] at hV
    have HV := Lib.hid hV
    have hmc : (m : Int) ≤ c := by omega
    have hmc' : m ≤ c := by omega
    have hl' : m + 4 ≤ 140737488351232 := by omega
    have hs0 := hV w.drew ((Below.refl _ _).drew)
    obtain ⟨q, hqq⟩ : ∃ q, q = decide (sealN xs = bs) := ⟨_, rfl⟩
    rw [← hqq] at hq
    have HQ := Lib.hid hqq
    rw [← hn] at hc ⊢
    clear hr hhi h256 hxs hxl hrx hx256 hs256 k134 hm hn hl hV hqq
    go_enter Tryd.func138, Tryd.ntmps138
    go_upto_region 4 with (fail)
    refine wp_region_held_drew (S := fun w' => Below w.heap.size w w') (by kernel_rfl) ((Below.refl _ _).drew) (fun _ => ?_)
    have hSe : Below w.heap.size w w.drew := (Below.refl _ _).drew
    refine wpAnyH_take (i := 0) (v := .slice (some ⟨b, o, none⟩) n c) rfl (by kernel_rfl) (by kernel_rfl) (by kernel_rfl) (fun _ _ _ h => h) (Or.inl ⟨by kernel_rfl, fun w' hSw => ?_⟩) hSe ?_
    · go_simp
    simp only [List.getElem_toArray, List.getElem_cons_succ, List.getElem_cons_zero, Act.put, List.setIfInBounds_toArray, List.set_cons_zero, List.set_cons_succ]
    refine wpAnyH_take (i := 1) (v := .int .i64 m) rfl (by kernel_rfl) (by kernel_rfl) (by kernel_rfl) (fun _ _ _ h => h) (Or.inl ⟨by kernel_rfl, fun w' hSw => ?_⟩) hSe ?_
    · go_simp
    simp only [List.getElem_toArray, List.getElem_cons_succ, List.getElem_cons_zero, Act.put, List.setIfInBounds_toArray, List.set_cons_zero, List.set_cons_succ]
    refine wpAnyH_take (i := 2) (v := .int .i64 m) rfl (by kernel_rfl) (by kernel_rfl) (by kernel_rfl) (fun _ _ _ h => h) (Or.inl ⟨by kernel_rfl, fun w' hSw => ?_⟩) hSe ?_
    · go_simp
    simp only [List.getElem_toArray, List.getElem_cons_succ, List.getElem_cons_zero, Act.put, List.setIfInBounds_toArray, List.set_cons_zero, List.set_cons_succ]
    refine wpAnyH_take (i := 3) (v := .slice (some ⟨b, o, none⟩) m m) rfl (by kernel_rfl) (by kernel_rfl) (by kernel_rfl) (fun _ _ _ h => h) (Or.inl ⟨by kernel_rfl, fun w' hSw => ?_⟩) hSe ?_
    · go_simp
    simp only [List.getElem_toArray, List.getElem_cons_succ, List.getElem_cons_zero, Act.put, List.setIfInBounds_toArray, List.set_cons_zero, List.set_cons_succ]
    refine wpAnyH_take (i := 6) (v := .slice (some ⟨b, o, none⟩) n c) rfl (by kernel_rfl) (by kernel_rfl) (by kernel_rfl) (fun _ _ _ h => h) (Or.inl ⟨by kernel_rfl, fun w' hSw => ?_⟩) hSe ?_
    · go_simp
    simp only [List.getElem_toArray, List.getElem_cons_succ, List.getElem_cons_zero, Act.put, List.setIfInBounds_toArray, List.set_cons_zero, List.set_cons_succ]
    refine wpAnyH_take (i := 7) (v := .string (textOf bs)) rfl (by kernel_rfl) (by kernel_rfl) (by kernel_rfl) (fun _ _ _ h => h) (Or.inl ⟨by kernel_rfl, fun w' hSw => ?_⟩) hSe ?_
    · (have hcx := HV.out w' hSw; go_simp)
    simp only [List.getElem_toArray, List.getElem_cons_succ, List.getElem_cons_zero, Act.put, List.setIfInBounds_toArray, List.set_cons_zero, List.set_cons_succ]
    refine wpAnyH_ready (rs := [4]) (by kernel_rfl) (by simp) ?_
    refine AllReadyH.cons rfl (fun K hK => ?_) AllReadyH.nil
    go_simp
    refine HK.out.mono ?_
    rintro e w1 ⟨v1, rfl, o1, b1⟩
    have hS1 : Below w.heap.size w w1 := hSe.trans b1
    obtain ⟨A1, c1, rfl, r1⟩ := o1.rd
    have hc1 := conv_bytes (W := w1) (c := c1) HR.out.2.2 r1 (ownA8 o1)
    clear o1 b1 r1
    refine Shut.out hK _ _ hS1 (fun _ => ?_)
    clear hK K
    refine wpAnyH_ready (rs := [5]) (by kernel_rfl) (by simp) ?_
    refine AllReadyH.cons rfl (fun K hK => ?_) AllReadyH.nil
    go_simp
    refine Shut.out hK _ _ hS1 (fun _ => ?_)
    clear hK K
    refine wpAnyH_take (i := 8) (v := .bool (!q)) rfl (by kernel_rfl) (by kernel_rfl) (by kernel_rfl) (fun _ _ _ h => h) (Or.inl ⟨by kernel_rfl, fun w' hSw => ?_⟩) hS1 ?_
    · go_simp
    simp only [List.getElem_toArray, List.getElem_cons_succ, List.getElem_cons_zero, Act.put, List.setIfInBounds_toArray, List.set_cons_zero, List.set_cons_succ]
    refine wpAnyH_done (by kernel_rfl) ?_ _
    have HS1 := Lib.hid hS1
    clear hSe hS1 hc1 hs0
    cases q with
    | false =>
      have hne : ¬ sealN (bs.take (bs.length - 4)) = bs := by
        rw [← H.out.2.2.2.2.1, ← H.out.2.2.1]
        exact of_decide_eq_false HQ.out.symm
      have HNE := Lib.hid hne
      clear hne
      go_wp2_with (fail)
      go_ret2
      exact ⟨HS1.out, .inr (.inl ⟨by have := H.out.2.2.2.2.1; omega, HNE.out, rfl⟩)⟩
    | true =>
      have heq : sealN xs = bs := of_decide_eq_true HQ.out.symm
      have HEQ := Lib.hid heq
      have HRX := Lib.hid ((HR.out.1 w1 HS1.out).fr (Fr.of_below ((Below.refl w1.heap.size w1).alloc (Nat.le_refl _) (.cells #[] 5)) (fun _ => False)) (Nat.le_trans H.out.2.1 HS1.out.size) (fun _ _ _ h => h))
      clear heq
      go_wp2_with (at_builtin
                   refine law_append8 (.tmp 20) (.tmp 23) w1.heap.size 0 hi (.slice (some ⟨w1.heap.size, 0, none⟩) 0 0) [] xs (some ⟨b, o, none⟩) c rfl rfl rfl (OwnB.made w1) (by rw [H.out.2.2.2.1]; rfl) HRX.out (by have := H.out.2.2.2.1; simp; omega) (by simp) ?_
                   simp only [List.length_nil, Nat.zero_add, List.nil_append]
                   intro A2 c2 W2 o2 f2
                   have H2 := Lib.hid (And.intro o2 (((Below.refl w1.heap.size w1).alloc (Nat.le_refl _) (.cells #[] 5)).trans f2.1))
                   clear o2 f2)
      go_ret2
      exact ⟨HS1.out.trans (H2.out.2.mono HS1.out.size), .inr (.inr ⟨xs, A2, c2, HEQ.out.symm, rfl, H2.out.1.1, H2.out.1.2.1, ownsRow_base H2.out.1.2.2 HS1.out.size⟩)⟩

end Go.Proofs.YtnlncfjibbdimaaDoor
