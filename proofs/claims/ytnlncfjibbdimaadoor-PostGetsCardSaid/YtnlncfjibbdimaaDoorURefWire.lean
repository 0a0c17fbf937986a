/-
  The walks of the document's Sum, Seal and Open.
-/
import Derived.Test.YtnlncfjibbdimaaDoorUWireX
namespace Go.Proofs.YtnlncfjibbdimaaDoor
open Go.RowKit
set_option linter.unusedSimpArgs false
set_option linter.unusedVariables false
set_option maxRecDepth 100000 in
set_option maxHeartbeats 1600000 in
theorem rsum_any (w : World) (hi c : Nat) (A : Option Addr) (bs : List Nat) (hr : Rd w 0 hi 1 A bs.length (u8s bs)) (hl : bs.length ≤ 140737488355328) (h256 : ∀ x ∈ bs, x < 256) :
    Calls Tryd.prog 162 #[.slice A bs.length c] w fun e w' => e = .returned (.int .u32 (sumN bs)) ∧ w' = w := by
  obtain ⟨n, hn⟩ : ∃ n, n = bs.length := ⟨_, rfl⟩
  have HR := Lib.hid (And.intro hr (And.intro h256 hn))
  rw [← hn] at hl ⊢
  clear hr h256 hn
  go_enter Tryd.func162, Tryd.ntmps162
  go_wp2_with (fail)
  go_loop [3, 8] (fun s i => ∃ (k sN : Nat), k ≤ n ∧ i = .int .i64 k ∧ s = .int .u64 sN ∧ sN = sumN (bs.take k)) (fun _ i => n - (intOf i).toNat)
  case atStart => exact ⟨0, 2166136261, Nat.zero_le _, rfl, rfl, rfl⟩
  case round =>
    obtain ⟨k, sN, hk, rfl, rfl, hs⟩ := hrel
    have hs32 : sN < 4294967296 := by rw [hs]; exact sumN_lt _
    by_cases hlt : k < n
    · obtain ⟨x, hx⟩ : ∃ x, bs[k]? = some x := ⟨_, List.getElem?_eq_getElem (by rw [← HR.out.2.2]; exact hlt)⟩
      obtain ⟨b, o, rfl⟩ := HR.out.1.addr (by rw [← HR.out.2.2]; omega)
      have hck := HR.out.1.at8 hx
      have hx256 := HR.out.2.1 x (List.mem_of_getElem? hx)
      have hxor := u64_xor_nat sN x (by omega) (by omega)
      have hx32 : sN ^^^ x < 2 ^ 32 := Nat.xor_lt_two_pow (by omega) (by omega)
      obtain ⟨u, hu⟩ : ∃ u, u = sN ^^^ x := ⟨_, rfl⟩
      rw [← hu] at hxor hx32
      obtain ⟨m, hm⟩ : ∃ m : Nat, m = sumN (bs.take (k + 1)) := ⟨_, rfl⟩
      obtain ⟨t, ht⟩ : ∃ t : Nat, t = u * 16777619 := ⟨_, rfl⟩
      have htm : m = t % 4294967296 := by rw [hm, sumN_take hx, ← hs, sumStep, ← hu, ← ht]
      have hmul : IntKind.u64.wrap ((u : Int) * 16777619) = (t : Int) := by
        rw [IntKind.wrap_u64]
        omega
      have hrem : (t : Int).tmod 4294967296 = (m : Int) := by
        rw [Int.tmod_eq_emod_of_nonneg (by omega)]
        omega
      have HM := Lib.hid hm
      clear hx hs hm htm ht hu
      go_wp2_with (fail)
      go_round
      case rel => exact ⟨k + 1, m, by omega, by go_num, rfl, HM.out⟩
      case measure => simp [intOf]; omega
    · have hall : bs.take k = bs := by rw [show k = bs.length by have := HR.out.2.2; omega, List.take_length]
      rw [hall] at hs
      have HS := Lib.hid hs
      have h32 : (sN : Int) % 4294967296 = sN := by omega
      clear hs hall
      go_wp2_with (fail)
      go_ret
      exact ⟨by rw [← HS.out]; rfl, rfl⟩
set_option maxRecDepth 100000 in
set_option maxHeartbeats 1600000 in
theorem rseal_any (w : World) (hi c : Nat) (A : Option Addr) (bs : List Nat) (hr : Rd w 0 hi 1 A bs.length (u8s bs)) (hhi : hi ≤ w.heap.size) (hl : bs.length + 4 ≤ 140737488355328) (h256 : ∀ x ∈ bs, x < 256) :
    Calls Tryd.prog 134 #[.slice A bs.length c] w (NewB w (sealN bs)) := by
  have k160 := rsum_any w hi c A bs hr (by omega) h256
  obtain ⟨s, hs⟩ : ∃ s, s = sumN bs := ⟨_, rfl⟩
  have hs32 : s < 4294967296 := by rw [hs]; exact sumN_lt bs
  rw [← hs] at k160
  obtain ⟨n, hn⟩ : ∃ n, n = bs.length := ⟨_, rfl⟩
  have HK := Lib.hid k160
  have H := Lib.hid (And.intro hr (And.intro hhi (And.intro hl (And.intro hn hs))))
  obtain ⟨p1, hp1⟩ : ∃ p, p = s / 16777216 := ⟨_, rfl⟩
  obtain ⟨p2, hp2⟩ : ∃ p, p = s / 65536 := ⟨_, rfl⟩
  obtain ⟨p3, hp3⟩ : ∃ p, p = s / 256 := ⟨_, rfl⟩
  have e1 := shr_u32 s p1 24 (by omega) (by rw [hp1])
  have e2 := shr_u32 s p2 16 (by omega) (by rw [hp2])
  have e3 := shr_u32 s p3 8 (by omega) (by rw [hp3])
  simp only [Int.cast_ofNat_Int] at e1 e2 e3
  have hcs : (#[.int .u8 ((s : Int) / 16777216), .int .u8 ((s : Int) / 65536 % 256), .int .u8 ((s : Int) / 256 % 256), .int .u8 ((s : Int) % 256)] : Array Value) = (u8s (be4 s)).toArray := by
    have e : (s : Int) / 16777216 = (s : Int) / 16777216 % 256 := by omega
    rw [e]
    simp [u8s, be4]
  have HCS := Lib.hid hcs
  rw [← hn] at HK ⊢
  clear k160 hr hhi hl hs hn hcs
  go_enter Tryd.func134, Tryd.ntmps134
  go_wp2_with (first
    | (go_at_call 162; refine HK.out.mono ?_; rintro e w1 ⟨rfl, hw⟩; subst w1)
    | (at_builtin
       refine law_append8 (.tmp 6) (.tmp 7) w.heap.size 0 hi (.slice (some ⟨w.heap.size, 0, none⟩) 0 0) [] bs A c rfl rfl rfl (OwnB.made w) (by rw [← H.out.2.2.2.1]; rfl) (H.out.1.fr (Fr.of_below ((Below.refl w.heap.size w).alloc (Nat.le_refl _) _) (fun _ => False)) H.out.2.1 (fun _ _ _ h => h)) (by have := H.out.2.2.1; simp; omega) (by simp) ?_
       simp only [List.length_nil, Nat.zero_add, List.nil_append]
       intro A1 c1 W1 o1 f1
       have hrd : Rd (W1.alloc (.cells #[.int .u8 ((s : Int) / 16777216), .int .u8 ((s : Int) / 65536 % 256), .int .u8 ((s : Int) / 256 % 256), .int .u8 ((s : Int) % 256)] 5)) 0 (W1.heap.size + 1) 1 (some ⟨W1.heap.size, 0, none⟩) (be4 s).length (u8s (be4 s)) :=
         ⟨by simp [u8s], fun _ => ⟨_, rfl, Nat.zero_le _, by simp, fun j u hu => by
           rw [Addr.add_mid, Nat.zero_add, (Blk.new W1 5 _).cell j, HCS.out]
           simpa using hu⟩⟩
       have hb1 : Below w.heap.size w W1 := ((Below.refl w.heap.size w).alloc (Nat.le_refl _) _).trans f1.1
       have H1 := Lib.hid (And.intro (o1.below ((Below.refl W1.heap.size W1).alloc (Nat.le_refl _) (.cells #[.int .u8 ((s : Int) / 16777216), .int .u8 ((s : Int) / 65536 % 256), .int .u8 ((s : Int) / 256 % 256), .int .u8 ((s : Int) % 256)] 5)) (Nat.le_refl _)) (And.intro hrd (hb1.alloc hb1.size (.cells #[.int .u8 ((s : Int) / 16777216), .int .u8 ((s : Int) / 65536 % 256), .int .u8 ((s : Int) / 256 % 256), .int .u8 ((s : Int) % 256)] 5))))
       clear o1 f1 hrd hb1)
    | (at_builtin
       refine law_append8 (.tmp 8) (.tmp 20) w.heap.size 0 (W1.heap.size + 1) (.slice A1 bs.length c1) bs (be4 s) (some ⟨W1.heap.size, 0, none⟩) 4 rfl rfl rfl H1.out.1 rfl H1.out.2.1 (by have := H.out.2.2.1; rw [be4_length]; exact this) H1.out.2.2.size ?_
       intro A2 c2 W2 o2 f2
       have H2 := Lib.hid (And.intro o2 (H1.out.2.2.trans f2.1))
       clear o2 f2)
    | fail)
  go_ret
  refine ⟨_, rfl, ?_, H2.out.2⟩
  unfold sealN
  rw [← H.out.2.2.2.2]
  exact H2.out.1
end Go.Proofs.YtnlncfjibbdimaaDoor
