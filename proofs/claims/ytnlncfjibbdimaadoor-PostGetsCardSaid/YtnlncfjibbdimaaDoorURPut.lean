/-
  The walk of the document's Put, for every command in form.
-/
import Derived.Test.YtnlncfjibbdimaaDoorURdX
import Derived.Lib.ConvBytes
import Derived.Deep.RegionHeld3
namespace Go.Proofs.YtnlncfjibbdimaaDoor
open Go.RowKit
set_option linter.unusedSimpArgs false
set_option linter.unusedVariables false
theorem ints_lit {W : World} {g : Nat} (l : List Int) (h : Blk W g 3 (ints l).toArray) (hl : l.length ≤ 1000) : IntsAt W g (g + 1) (.slice (some ⟨g, 0, none⟩) l.length l.length) l := by
  refine ⟨some ⟨g, 0, none⟩, l.length, rfl, Nat.le_refl _, by simp only [maxLen]; omega, by omega, by rw [ints_length]; omega, fun _ => ⟨_, rfl, Nat.le_refl _, Nat.lt_succ_self _, fun j u hu => ?_⟩⟩
  rw [Addr.add_mid, Nat.zero_add, h.cell j]
  simpa using hu
/-- A text's bytes, laid anew by the conversion. -/
theorem bytesWorld_below (w : World) (s : ByteArray) : Below w.heap.size w (Lib.bytesWorld w 5 s) :=
  ⟨rfl, rfl, rfl, by rw [Lib.bytesWorld_size]; omega, fun k hk => Lib.bytesWorld_at_old w 5 s k hk⟩
theorem bytesWorld_rd (w : World) (s : ByteArray) : Rd (Lib.bytesWorld w 5 s) w.heap.size (w.heap.size + 1) 1 (some ⟨w.heap.size, 0, none⟩) s.size (u8s (bytesN s)) := by
  refine ⟨by simp [u8s, bytesN_length], fun _ => ⟨_, rfl, Nat.le_refl _, Nat.lt_succ_self _, fun j u hu => ?_⟩⟩
  rw [Addr.add_mid, Nat.zero_add]
  have hj : j < s.size := by
    have := (List.getElem?_eq_some_iff.1 hu).1
    simpa [u8s, bytesN_length] using this
  rw [Lib.bytesWorld_cell w 5 s j hj]
  have hj' : j < s.data.toList.length := by simpa using hj
  simp only [u8s, bytesN, List.getElem?_map, List.getElem?_eq_getElem hj', Option.map_some] at hu
  rw [← hu, List.getD_eq_getElem?_getD, List.getElem?_eq_getElem hj']
  rfl
theorem rbytes_text (w : World) (s : ByteArray) (cap : Nat) (hs : s.size ≤ 1000) : Calls Tryd.prog 111 #[.slice (some ⟨w.heap.size, 0, none⟩) s.size cap] (Lib.bytesWorld w 5 s) fun e w' => ∃ v, e = .returned v ∧ OwnB w' (w.heap.size + 1) v (encS s) ∧ Below w.heap.size w w' := by
  have h6 : (enc s.size).length ≤ 6 := enc_len6 (by omega)
  have h := rbytes_any (Lib.bytesWorld w 5 s) w.heap.size (w.heap.size + 1) (some ⟨w.heap.size, 0, none⟩) cap (bytesN s) (by rw [bytesN_length]; exact bytesWorld_rd w s) (by rw [Lib.bytesWorld_size]; omega) (by rw [bytesN_length]; omega)
  rw [bytesN_length] at h
  refine h.mono ?_
  rintro e w' ⟨v, rfl, o, b⟩
  rw [Lib.bytesWorld_size] at o b
  exact ⟨v, rfl, o, (bytesWorld_below w s).trans (b.mono (by omega))⟩
theorem d81 : (81 : TypeId) ≠ 5 := by decide
theorem d3 : (3 : TypeId) ≠ 5 := by decide
set_option maxRecDepth 100000 in
set_option maxHeartbeats 3200000 in
theorem rput_any (c : Cmd) (hc : Lens c) (hpp : ∀ x ∈ c.parts, inG x) (w : World) (lo hi : Nat) (pv : Value) (hp : IntsAt w lo hi pv c.parts) (hhi : hi ≤ w.heap.size) :
    Calls Tryd.prog 48 #[.agg (c.cells pv).toArray] w (NewB w (putN c)) := by
  obtain ⟨kind, idn, idb, ids, bucket, key, upn, upb, ups, pbn, pbb, pbs, psize, etag, part, parts, time, days⟩ := c
  obtain ⟨_, hr⟩ := hc
  rename_i hl
  simp only at hl hr hp hpp
  obtain ⟨A, cp, rfl, hc1, hc2, hc3, hrd⟩ := id hp
  simp only [Cmd.cells]
  have hst : ∀ W, BFr w.heap.size w W → IntsAt W lo hi (.slice A parts.length cp) parts := fun W h => hp.fr (Fr.of_below h.1 (fun _ => False)) hhi (fun _ _ _ h => h)
  have hG : ∀ (l : List Int), (∀ x ∈ l, inG x) → ∀ x ∈ l, 0 ≤ x ∧ x ≤ 9223372036854775807 := fun l h x hx => by have := h x hx; unfold inG at this; omega
  have hcv := fun (W : World) (s : ByteArray) => Lib.run_convert_string_bytes (P := Tryd.prog) W 9 84 5 s Tryd.underlying9 Tryd.underlying84 Tryd.underlying5
  have HG := Lib.hid hG
  have HST := Lib.hid hst
  have HPP := Lib.hid hpp
  have HC := Lib.hid (And.intro hl hr)
  have hn63 : parts.length ≤ 16 := hr.2.2.2.2.2.2.2.2.2.2.2.2.2.2
  clear hl hr hp hc1 hc2 hc3 hrd hG hst hpp
  go_enter Tryd.func48, Tryd.ntmps48
  go_upto_region 1 with (fail)
  refine wp_letter (fun W => BFr w.heap.size w W ∧ Blk W w.heap.size 81 #[.int .i64 kind, .int .i64 idn, .int .i64 idb, .int .i64 ids, .string bucket, .string key, .int .i64 upn, .int .i64 upb, .int .i64 ups, .int .i64 pbn, .int .i64 pbb, .int .i64 pbs, .int .i64 psize, .string etag, .int .i64 part, .slice A parts.length cp, .int .i64 time, .int .i64 days]) ⟨BFr.of_below ((Below.refl w.heap.size w).alloc (Nat.le_refl _) _) (Nat.le_refl _), Blk.new w 81 _⟩ ?_
  rintro W ⟨hb, hX⟩
  obtain ⟨x, hx⟩ : ∃ x, x = w.heap.size := ⟨_, rfl⟩
  have hxW : x ≤ W.heap.size := by rw [hx]; exact hb.size
  rw [← hx] at hX hb HST ⊢
  have hO := OwnB.nil_ W x
  have cX := hX.cell
  obtain ⟨b0, hb0⟩ : ∃ b : List Nat, b = [] := ⟨_, rfl⟩
  rw [← hb0] at hO
  have hlen0 : b0.length ≤ 0 := by rw [hb0]; simp
  have HLW := Lib.hid hxW
  have HL0 := Lib.hid hlen0
  have HB0 := Lib.hid hb0
  have HO := Lib.hid (And.intro hO (And.intro hb hX))
  have HX0 := Lib.hid hx
  clear hx hlen0 hb0 hO hb hX hxW
  have hL1 : ∀ x ∈ ([kind, idn, idb, ids] : List Int), inG x := by
    have := HC.out.2
    simp only [List.mem_cons, List.not_mem_nil, or_false]
    rintro x hx
    rcases hx with rfl | rfl | rfl | rfl <;> first | exact this.1 | exact this.2.1 | exact this.2.2.1 | exact this.2.2.2.1 | exact this.2.2.2.2.1 | exact this.2.2.2.2.2.1 | exact this.2.2.2.2.2.2.1 | exact this.2.2.2.2.2.2.2.1 | exact this.2.2.2.2.2.2.2.2.1 | exact this.2.2.2.2.2.2.2.2.2.1 | exact this.2.2.2.2.2.2.2.2.2.2.1 | exact this.2.2.2.2.2.2.2.2.2.2.2.1 | (unfold inG; omega)
  have hf1 := flat_len _ hL1
  simp only [List.length_cons, List.length_nil] at hf1
  obtain ⟨b1, hb1⟩ : ∃ b, b = b0 ++ ([kind, idn, idb, ids] : List Int).flatMap encI := ⟨_, rfl⟩
  have hlen1 : b1.length ≤ 24 := by have := HL0.out; rw [hb1, List.length_append]; omega
  have hO1 := (HO.out.1).below ((Below.refl W.heap.size W).alloc (Nat.le_refl _) (.cells #[.int .i64 kind, .int .i64 idn, .int .i64 idb, .int .i64 ids] 3)) (Nat.le_refl _)
  have k110 := rnums_any (W.alloc (.cells #[.int .i64 kind, .int .i64 idn, .int .i64 idb, .int .i64 ids] 3)) x W.heap.size (W.heap.size + 1) (.slice none 0 0) (.slice (some ⟨W.heap.size, 0, none⟩) 4 4) b0 [kind, idn, idb, ids] hO1 (by have := HLW.out; simp; omega) (fun W' h => ints_lit [kind, idn, idb, ids] ((Blk.new W 3 #[.int .i64 kind, .int .i64 idn, .int .i64 idb, .int .i64 ids]).bfr h (by decide)) (by simp)) (HG.out _ hL1) (by have := HL0.out; omega)
  rw [← hb1] at k110
  have HK110 := Lib.hid k110
  have HL1 := Lib.hid hlen1
  have HB1 := Lib.hid hb1
  clear hL1 hf1 hlen1 hO1 hb1 k110
  go_upto_region 2 with (first | (go_at_call 110; refine HK110.out.mono ?_; rintro e w1 ⟨v1, rfl, o1, f1⟩; obtain ⟨⟨A1, c1, hv1⟩, _⟩ := id o1; subst hv1; have HN := Lib.hid (And.intro o1 f1); clear o1 f1) | fail)
  have hf1 := HO.out.2.1.trans ((BFr.of_below ((Below.refl W.heap.size W).alloc (Nat.le_refl _) (.cells #[.int .i64 kind, .int .i64 idn, .int .i64 idb, .int .i64 ids] 3)) HLW.out).trans HN.out.2)
  have hX1 := (HO.out.2.2.alloc (.cells #[.int .i64 kind, .int .i64 idn, .int .i64 idb, .int .i64 ids] 3)).bfr HN.out.2 (by decide)
  have hw1 : x ≤ w1.heap.size := by have := HLW.out; have := HN.out.2.size; simp at this; omega
  have HO := Lib.hid (And.intro HN.out.1 (And.intro hf1 hX1))
  have HLW := Lib.hid hw1
  clear cX
  have cX := hX1.cell
  clear hf1 hX1 hw1 HN HK110
  have hs2 : bucket.size ≤ 64 := by have := HC.out.1; omega
  have he2 : (encS bucket).length ≤ 70 := by
    unfold encS
    rw [List.length_append, bytesN_length]
    have : (enc bucket.size).length ≤ 6 := enc_len6 (by omega)
    omega
  obtain ⟨b2, hb2⟩ : ∃ b, b = b1 ++ encS bucket := ⟨_, rfl⟩
  have hlen2 : b2.length ≤ 94 := by have := HL1.out; rw [hb2, List.length_append]; omega
  have k111 := fun cap => rbytes_text w1 bucket cap (by omega)
  have HE := Lib.hid he2
  have HK111 := Lib.hid k111
  have HL2 := Lib.hid hlen2
  have HB2 := Lib.hid hb2
  clear hs2 he2 hlen2 hb2 k111
  go_upto_region 3 with (first
     | (at_builtin
        refine law_append8 (.tmp 17) (.tmp 21) x _ _ _ b1 (encS bucket) Aq cq rfl rfl rfl (HO.out.1.below HN.out.2 (Nat.le_refl _)) rfl HR.out (by have := HL1.out; have := HE.out; omega) (by have := HLW.out; have := HN.out.2.size; omega) ?_
        intro A2 c2 w2 o2 f2
        have HM := Lib.hid (And.intro o2 f2)
        clear o2 f2)
     | (go_at_call 111
        refine (HK111.out _).mono ?_
        rintro e wq ⟨vq, rfl, oq, bq⟩
        obtain ⟨Aq, cq, hvq, rq⟩ := oq.rd
        subst hvq
        have HN := Lib.hid (And.intro oq bq)
        have HR := Lib.hid rq
        clear oq bq rq) | fail)
  have hf2 := HO.out.2.1.trans ((BFr.of_below HN.out.2 HLW.out).trans HM.out.2)
  have hX2 := (HO.out.2.2.below HN.out.2 HO.out.2.2.lt).bfr HM.out.2 (by decide)
  have hw2 : x ≤ w2.heap.size := by have := HLW.out; have := HN.out.2.size; have := HM.out.2.size; omega
  have hO2 := HM.out.1
  rw [← HB2.out] at hO2
  have HO := Lib.hid (And.intro hO2 (And.intro hf2 hX2))
  have HLW := Lib.hid hw2
  clear cX
  have cX := hX2.cell
  clear hf2 hX2 hw2 hO2 HN HM HR HE HK111
  have hs3 : key.size ≤ 200 := by have := HC.out.1; omega
  have he3 : (encS key).length ≤ 206 := by
    unfold encS
    rw [List.length_append, bytesN_length]
    have : (enc key.size).length ≤ 6 := enc_len6 (by omega)
    omega
  obtain ⟨b3, hb3⟩ : ∃ b, b = b2 ++ encS key := ⟨_, rfl⟩
  have hlen3 : b3.length ≤ 300 := by have := HL2.out; rw [hb3, List.length_append]; omega
  have k111 := fun cap => rbytes_text w2 key cap (by omega)
  have HE := Lib.hid he3
  have HK111 := Lib.hid k111
  have HL3 := Lib.hid hlen3
  have HB3 := Lib.hid hb3
  clear hs3 he3 hlen3 hb3 k111
  go_upto_region 4 with (first
     | (at_builtin
        refine law_append8 (.tmp 23) (.tmp 27) x _ _ _ b2 (encS key) Aq cq rfl rfl rfl (HO.out.1.below HN.out.2 (Nat.le_refl _)) rfl HR.out (by have := HL2.out; have := HE.out; omega) (by have := HLW.out; have := HN.out.2.size; omega) ?_
        intro A3 c3 w3 o3 f3
        have HM := Lib.hid (And.intro o3 f3)
        clear o3 f3)
     | (go_at_call 111
        refine (HK111.out _).mono ?_
        rintro e wq ⟨vq, rfl, oq, bq⟩
        obtain ⟨Aq, cq, hvq, rq⟩ := oq.rd
        subst hvq
        have HN := Lib.hid (And.intro oq bq)
        have HR := Lib.hid rq
        clear oq bq rq) | fail)
  have hf3 := HO.out.2.1.trans ((BFr.of_below HN.out.2 HLW.out).trans HM.out.2)
  have hX3 := (HO.out.2.2.below HN.out.2 HO.out.2.2.lt).bfr HM.out.2 (by decide)
  have hw3 : x ≤ w3.heap.size := by have := HLW.out; have := HN.out.2.size; have := HM.out.2.size; omega
  have hO3 := HM.out.1
  rw [← HB3.out] at hO3
  have HO := Lib.hid (And.intro hO3 (And.intro hf3 hX3))
  have HLW := Lib.hid hw3
  clear cX
  have cX := hX3.cell
  clear hf3 hX3 hw3 hO3 HN HM HR HE HK111
  have hL4 : ∀ x ∈ ([upn, upb, ups, pbn, pbb, pbs, psize] : List Int), inG x := by
    have := HC.out.2
    simp only [List.mem_cons, List.not_mem_nil, or_false]
    rintro x hx
    rcases hx with rfl | rfl | rfl | rfl | rfl | rfl | rfl <;> first | exact this.1 | exact this.2.1 | exact this.2.2.1 | exact this.2.2.2.1 | exact this.2.2.2.2.1 | exact this.2.2.2.2.2.1 | exact this.2.2.2.2.2.2.1 | exact this.2.2.2.2.2.2.2.1 | exact this.2.2.2.2.2.2.2.2.1 | exact this.2.2.2.2.2.2.2.2.2.1 | exact this.2.2.2.2.2.2.2.2.2.2.1 | exact this.2.2.2.2.2.2.2.2.2.2.2.1 | (unfold inG; omega)
  have hf4 := flat_len _ hL4
  simp only [List.length_cons, List.length_nil] at hf4
  obtain ⟨b4, hb4⟩ : ∃ b, b = b3 ++ ([upn, upb, ups, pbn, pbb, pbs, psize] : List Int).flatMap encI := ⟨_, rfl⟩
  have hlen4 : b4.length ≤ 342 := by have := HL3.out; rw [hb4, List.length_append]; omega
  have hO4 := (HO.out.1).below ((Below.refl w3.heap.size w3).alloc (Nat.le_refl _) (.cells #[.int .i64 upn, .int .i64 upb, .int .i64 ups, .int .i64 pbn, .int .i64 pbb, .int .i64 pbs, .int .i64 psize] 3)) (Nat.le_refl _)
  have k110 := rnums_any (w3.alloc (.cells #[.int .i64 upn, .int .i64 upb, .int .i64 ups, .int .i64 pbn, .int .i64 pbb, .int .i64 pbs, .int .i64 psize] 3)) x w3.heap.size (w3.heap.size + 1) (.slice A3 (b2.length + (encS key).length) c3) (.slice (some ⟨w3.heap.size, 0, none⟩) 7 7) b3 [upn, upb, ups, pbn, pbb, pbs, psize] hO4 (by have := HLW.out; simp; omega) (fun W' h => ints_lit [upn, upb, ups, pbn, pbb, pbs, psize] ((Blk.new w3 3 #[.int .i64 upn, .int .i64 upb, .int .i64 ups, .int .i64 pbn, .int .i64 pbb, .int .i64 pbs, .int .i64 psize]).bfr h (by decide)) (by simp)) (HG.out _ hL4) (by have := HL3.out; omega)
  rw [← hb4] at k110
  have HK110 := Lib.hid k110
  have HL4 := Lib.hid hlen4
  have HB4 := Lib.hid hb4
  clear hL4 hf4 hlen4 hO4 hb4 k110
  go_upto_region 5 with (first | (go_at_call 110; refine HK110.out.mono ?_; rintro e w4 ⟨v4, rfl, o4, f4⟩; obtain ⟨⟨A4, c4, hv4⟩, _⟩ := id o4; subst hv4; have HN := Lib.hid (And.intro o4 f4); clear o4 f4) | fail)
  have hf4 := HO.out.2.1.trans ((BFr.of_below ((Below.refl w3.heap.size w3).alloc (Nat.le_refl _) (.cells #[.int .i64 upn, .int .i64 upb, .int .i64 ups, .int .i64 pbn, .int .i64 pbb, .int .i64 pbs, .int .i64 psize] 3)) HLW.out).trans HN.out.2)
  have hX4 := (HO.out.2.2.alloc (.cells #[.int .i64 upn, .int .i64 upb, .int .i64 ups, .int .i64 pbn, .int .i64 pbb, .int .i64 pbs, .int .i64 psize] 3)).bfr HN.out.2 (by decide)
  have hw4 : x ≤ w4.heap.size := by have := HLW.out; have := HN.out.2.size; simp at this; omega
  have HO := Lib.hid (And.intro HN.out.1 (And.intro hf4 hX4))
  have HLW := Lib.hid hw4
  clear cX
  have cX := hX4.cell
  clear hf4 hX4 hw4 HN HK110
  have hs5 : etag.size ≤ 64 := by have := HC.out.1; omega
  have he5 : (encS etag).length ≤ 70 := by
    unfold encS
    rw [List.length_append, bytesN_length]
    have : (enc etag.size).length ≤ 6 := enc_len6 (by omega)
    omega
  obtain ⟨b5, hb5⟩ : ∃ b, b = b4 ++ encS etag := ⟨_, rfl⟩
  have hlen5 : b5.length ≤ 412 := by have := HL4.out; rw [hb5, List.length_append]; omega
  have k111 := fun cap => rbytes_text w4 etag cap (by omega)
  have HE := Lib.hid he5
  have HK111 := Lib.hid k111
  have HL5 := Lib.hid hlen5
  have HB5 := Lib.hid hb5
  clear hs5 he5 hlen5 hb5 k111
  go_upto_region 6 with (first
     | (at_builtin
        refine law_append8 (.tmp 56) (.tmp 61) x _ _ _ b4 (encS etag) Aq cq rfl rfl rfl (HO.out.1.below HN.out.2 (Nat.le_refl _)) rfl HR.out (by have := HL4.out; have := HE.out; omega) (by have := HLW.out; have := HN.out.2.size; omega) ?_
        intro A5 c5 w5 o5 f5
        have HM := Lib.hid (And.intro o5 f5)
        clear o5 f5)
     | (go_at_call 111
        refine (HK111.out _).mono ?_
        rintro e wq ⟨vq, rfl, oq, bq⟩
        obtain ⟨Aq, cq, hvq, rq⟩ := oq.rd
        subst hvq
        have HN := Lib.hid (And.intro oq bq)
        have HR := Lib.hid rq
        clear oq bq rq) | fail)
  have hf5 := HO.out.2.1.trans ((BFr.of_below HN.out.2 HLW.out).trans HM.out.2)
  have hX5 := (HO.out.2.2.below HN.out.2 HO.out.2.2.lt).bfr HM.out.2 (by decide)
  have hw5 : x ≤ w5.heap.size := by have := HLW.out; have := HN.out.2.size; have := HM.out.2.size; omega
  have hO5 := HM.out.1
  rw [← HB5.out] at hO5
  have HO := Lib.hid (And.intro hO5 (And.intro hf5 hX5))
  have HLW := Lib.hid hw5
  clear cX
  have cX := hX5.cell
  clear hf5 hX5 hw5 hO5 HN HM HR HE HK111
  have hL6 : ∀ x ∈ ([part, (parts.length : Int)] : List Int), inG x := by
    have := HC.out.2
    simp only [List.mem_cons, List.not_mem_nil, or_false]
    rintro x hx
    rcases hx with rfl | rfl <;> first | exact this.1 | exact this.2.1 | exact this.2.2.1 | exact this.2.2.2.1 | exact this.2.2.2.2.1 | exact this.2.2.2.2.2.1 | exact this.2.2.2.2.2.2.1 | exact this.2.2.2.2.2.2.2.1 | exact this.2.2.2.2.2.2.2.2.1 | exact this.2.2.2.2.2.2.2.2.2.1 | exact this.2.2.2.2.2.2.2.2.2.2.1 | exact this.2.2.2.2.2.2.2.2.2.2.2.1 | (unfold inG; omega)
  have hf6 := flat_len _ hL6
  simp only [List.length_cons, List.length_nil] at hf6
  obtain ⟨b6, hb6⟩ : ∃ b, b = b5 ++ ([part, (parts.length : Int)] : List Int).flatMap encI := ⟨_, rfl⟩
  have hlen6 : b6.length ≤ 424 := by have := HL5.out; rw [hb6, List.length_append]; omega
  have hO6 := (HO.out.1).below ((Below.refl w5.heap.size w5).alloc (Nat.le_refl _) (.cells #[.int .i64 part, .int .i64 ((parts.length : Int))] 3)) (Nat.le_refl _)
  have k110 := rnums_any (w5.alloc (.cells #[.int .i64 part, .int .i64 ((parts.length : Int))] 3)) x w5.heap.size (w5.heap.size + 1) (.slice A5 (b4.length + (encS etag).length) c5) (.slice (some ⟨w5.heap.size, 0, none⟩) 2 2) b5 [part, (parts.length : Int)] hO6 (by have := HLW.out; simp; omega) (fun W' h => ints_lit [part, (parts.length : Int)] ((Blk.new w5 3 #[.int .i64 part, .int .i64 ((parts.length : Int))]).bfr h (by decide)) (by simp)) (HG.out _ hL6) (by have := HL5.out; omega)
  rw [← hb6] at k110
  have HK110 := Lib.hid k110
  have HL6 := Lib.hid hlen6
  have HB6 := Lib.hid hb6
  clear hL6 hf6 hlen6 hO6 hb6 k110
  go_upto_region 7 with (first | (go_at_call 110; refine HK110.out.mono ?_; rintro e w6 ⟨v6, rfl, o6, f6⟩; obtain ⟨⟨A6, c6, hv6⟩, _⟩ := id o6; subst hv6; have HN := Lib.hid (And.intro o6 f6); clear o6 f6) | fail)
  have hf6 := HO.out.2.1.trans ((BFr.of_below ((Below.refl w5.heap.size w5).alloc (Nat.le_refl _) (.cells #[.int .i64 part, .int .i64 ((parts.length : Int))] 3)) HLW.out).trans HN.out.2)
  have hX6 := (HO.out.2.2.alloc (.cells #[.int .i64 part, .int .i64 ((parts.length : Int))] 3)).bfr HN.out.2 (by decide)
  have hw6 : x ≤ w6.heap.size := by have := HLW.out; have := HN.out.2.size; simp at this; omega
  have HO := Lib.hid (And.intro HN.out.1 (And.intro hf6 hX6))
  have HLW := Lib.hid hw6
  clear cX
  have cX := hX6.cell
  clear hf6 hX6 hw6 HN HK110
  have hLt : ∀ x ∈ ([time, days] : List Int), inG x := by
    have := HC.out.2
    simp only [List.mem_cons, List.not_mem_nil, or_false]
    rintro x hx
    rcases hx with rfl | rfl
    · exact this.2.2.2.2.2.2.2.2.2.2.2.2.1
    · exact this.2.2.2.2.2.2.2.2.2.2.2.2.2.1
  have hft := flat_len _ hLt
  have hfp := flat_len _ HPP.out
  simp only [List.length_cons, List.length_nil] at hft
  obtain ⟨b7, hb7⟩ : ∃ b, b = b6 ++ parts.flatMap encI := ⟨_, rfl⟩
  obtain ⟨b8, hb8⟩ : ∃ b, b = b7 ++ ([time, days] : List Int).flatMap encI := ⟨_, rfl⟩
  have hlen7 : b7.length ≤ 520 := by have := HL6.out; rw [hb7, List.length_append]; omega
  have K1 : ∀ Wq, Below w6.heap.size w6 Wq → Calls Tryd.prog 110 #[.slice A6 b6.length c6, .slice A parts.length cp] Wq (PutB x Wq b7) := fun Wq h => by
    have h' := rnums_any Wq x lo hi (.slice A6 b6.length c6) (.slice A parts.length cp) b6 parts (HO.out.1.below h (Nat.le_refl _)) (by have := HLW.out; have := h.size; omega) (fun W' hf => HST.out W' ((HO.out.2.1.trans (BFr.of_below h HLW.out)).trans hf)) (HG.out _ HPP.out) (by have := HL6.out; omega)
    rw [← hb7] at h'
    exact h'
  have K2 : ∀ Wq g v7, OwnB Wq x v7 b7 → Blk Wq g 3 #[.int .i64 time, .int .i64 days] → x ≤ Wq.heap.size → Calls Tryd.prog 110 #[v7, .slice (some ⟨g, 0, none⟩) 2 2] Wq (PutB x Wq b8) := fun Wq g v7 ho hB hs => by
    have h' := rnums_any Wq x g (g + 1) v7 (.slice (some ⟨g, 0, none⟩) 2 2) b7 [time, days] ho hs (fun W' hf => ints_lit [time, days] (hB.bfr hf (by decide)) (by simp)) (HG.out _ hLt) (by omega)
    rw [← hb8] at h'
    exact h'
  have HK1 := Lib.hid K1
  have HK2 := Lib.hid K2
  have HB7 := Lib.hid hb7
  have HB8 := Lib.hid hb8
  clear K1 K2 hb7 hb8 hlen7 hft hfp hLt hcv
  have hput : b8 = putN { kind := kind, idn := idn, idb := idb, ids := ids, bucket := bucket, key := key, upn := upn, upb := upb, ups := ups, pbn := pbn, pbb := pbb, pbs := pbs, psize := psize, etag := etag, part := part, parts := parts, time := time, days := days } := by
    rw [HB8.out, HB7.out, HB6.out, HB5.out, HB4.out, HB3.out, HB2.out, HB1.out, HB0.out]
    simp [putN, putHead, List.flatMap_cons, List.append_assoc]
  have HPUT := Lib.hid hput
  clear hput
  go_region_held3 (fun w' => w'.cell? ⟨x, 15, none⟩ = some (.slice A parts.length cp) ∧ w'.cell? ⟨x, 16, none⟩ = some (.int .i64 time) ∧ w'.cell? ⟨x, 17, none⟩ = some (.int .i64 days)) (go_keep)
    (first
     | (go_at_call 110; (with_reducible refine (HK1.out w6.drew ((Below.refl _ _).drew)).mono ?_); rintro e w7 ⟨v7, rfl, o7, f7⟩; have HXq := Lib.hid ((HO.out.2.2.drew).bfr f7 d81); have qX := HXq.out.cell; have hw7 : x ≤ w7.heap.size := Nat.le_trans HLW.out f7.size; have HW7 := Lib.hid hw7; have HA := Lib.hid (And.intro o7 f7); clear o7 f7 hw7)
     | (go_at_call 110; (with_reducible refine (HK1.out (w6.alloc (.cells #[.int .i64 time, .int .i64 days] 3)).drew (((Below.refl _ _).alloc (Nat.le_refl _) (.cells #[.int .i64 time, .int .i64 days] 3)).drew)).mono ?_); rintro e w7 ⟨v7, rfl, o7, f7⟩; have HXq := Lib.hid ((HO.out.2.2.alloc (.cells #[.int .i64 time, .int .i64 days] 3)).drew.bfr f7 d81); have qX := HXq.out.cell; have hw7 : x ≤ w7.heap.size := Nat.le_trans HLW.out (Nat.le_trans ((Below.refl w6.heap.size w6).alloc (Nat.le_refl _) (.cells #[.int .i64 time, .int .i64 days] 3)).size f7.size); have HW7 := Lib.hid hw7; have HA := Lib.hid (And.intro o7 f7); clear o7 f7 hw7)
     | (go_at_call 110; (with_reducible refine (HK2.out (w7.alloc (.cells #[.int .i64 time, .int .i64 days] 3)) w7.heap.size _ (HA.out.1.below ((Below.refl _ _).alloc (Nat.le_refl _) (.cells #[.int .i64 time, .int .i64 days] 3)) (Nat.le_refl _)) (Blk.new w7 3 _) (Nat.le_trans HW7.out ((Below.refl w7.heap.size w7).alloc (Nat.le_refl _) (.cells #[.int .i64 time, .int .i64 days] 3)).size)).mono ?_); rintro e w8 ⟨v8, rfl, o8, f8⟩; have q8 := ((HXq.out.alloc (.cells #[.int .i64 time, .int .i64 days] 3)).bfr f8 d81).cell; have HZ := Lib.hid (And.intro o8 f8); clear o8 f8)
     | (go_at_call 110; (with_reducible refine (HK2.out w7 w6.heap.size _ HA.out.1 ((Blk.new w6 3 _).drew.bfr HA.out.2 d3) HW7.out).mono ?_); rintro e w8 ⟨v8, rfl, o8, f8⟩; have q8 := (HXq.out.bfr f8 d81).cell; have HZ := Lib.hid (And.intro o8 f8); clear o8 f8))
  · go_wp2_with (fail)
    go_ret
    have e1 := HX0.out
    have e2 := HZ.out.1
    have e3 := ((HO.out.2.1.1.drew.trans HA.out.2.1).alloc HW7.out (.cells #[.int .i64 time, .int .i64 days] 3)).trans HZ.out.2.1
    rw [e1] at e2 e3
    rw [HPUT.out] at e2
    exact ⟨v8, rfl, e2, e3⟩
  · go_wp2_with (fail)
    go_ret
    have e1 := HX0.out
    have e2 := HZ.out.1
    have e3 := ((HO.out.2.1.1.alloc HLW.out (.cells #[.int .i64 time, .int .i64 days] 3)).drew.trans HA.out.2.1).trans HZ.out.2.1
    rw [e1] at e2 e3
    rw [HPUT.out] at e2
    exact ⟨v8, rfl, e2, e3⟩
end Go.Proofs.YtnlncfjibbdimaaDoor
