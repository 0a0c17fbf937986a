/-
  RoundAgrees: a letter is delivered (68), whichever it is.
  RoundAgrees: a step of the net (a round begins, a letter is delivered), as one contract over the whole. No walk stands here.
-/
import Derived.Test.YtnlncfjibbdimaaDoorAgG13
import Derived.Test.YtnlncfjibbdimaaDoorAgH13
import Derived.Test.YtnlncfjibbdimaaDoorAgF13
import Derived.Test.YtnlncfjibbdimaaDoorBegs13
namespace Go.Proofs.YtnlncfjibbdimaaDoor
open Go.RowKit
set_option linter.unusedSimpArgs false
set_option linter.unusedVariables false

theorem deliver13 {M : Nat → Prop} {w : World} {B n : Nat} {g gr ga : Nat → Nat} {s : Nat → Acc} {R : Nat → Rnd} {F : Nat → Nat → Bool} {pv lv : Nat → Value} {A : Nat → Addr} {Aa Ar : Option Addr} {l : Let} {ov : Value} (ca cr : Nat) (D : DelIn M w B n g gr ga s R F pv lv A Aa Ar l.who l.to_ l.led ov) :
    Calls Tryd.prog 68 #[.slice Aa n ca, .slice Ar n cr, .agg (l.cells ov).toArray] w (DelPost M B n g gr ga s R F pv l w) := by
  obtain ⟨i, j, t, a, ⟨br, bn⟩, ⟨ar, an⟩, led⟩ := l
  cases a with
  | false =>
    cases t with
    | false => exact deliver_prep ca cr D
    | true => exact deliver_take ca cr D
  | true =>
    cases t with
    | false => exact deliver_prom ca cr D
    | true => exact deliver_acc ca cr D
end Go.Proofs.YtnlncfjibbdimaaDoor

namespace Go.Proofs.YtnlncfjibbdimaaDoor
open Go.RowKit
set_option linter.unusedSimpArgs false
set_option linter.unusedVariables false

theorem ownsRow_rd {w : World} {base e size n : Nat} {v : Value} {xs : List Value} (h : w.ownsRow base e size v n xs) : ∃ A c, v = .slice A n c ∧ n ≤ c ∧ c ≤ maxLen ∧ Rd w base w.heap.size size A n xs := by
  have hx := h.1
  rcases h.2 with ⟨rfl, rfl⟩ | ⟨k, cap, cur, rfl, hb, hh, h1, h2, h3, h4⟩
  · exact ⟨none, 0, rfl, Nat.le_refl _, by simp [maxLen], hx, fun h => absurd h (by omega)⟩
  · have hB : Blk w k e cur := hh
    refine ⟨_, cap, rfl, h1, h2, hx, fun _ => ⟨_, rfl, hb, hB.lt, fun j u hu => ?_⟩⟩
    rw [Addr.add_mid, Nat.zero_add, hB.cell]
    rw [← h4, List.getElem?_take] at hu
    split at hu
    · rw [← Array.getElem?_toList]; exact hu
    · cases hu
theorem clm_zero {s : Acc} {r : Int} (h : s.clmQ r = 0) : s.clmN r = s.node := by
  unfold Acc.clmQ at h
  unfold Acc.clmN
  split at h
  · rename_i h1; rw [if_pos h1]
  · cases h

section
variable {W w w' : World} {M : Nat → Prop} {B n i j lo hi : Nat} {g gr ga : Nat → Nat} {s : Nat → Acc} {R : Nat → Rnd} {F : Nat → Nat → Bool} {v : Vt} {ls : List Let} {pv lv : Nat → Value} {A : Nat → Addr} {Aa Ar : Option Addr} {Lv Dv : Value} {ps : List (Let × Value)} {ds : List (List Cmd × Value)}
theorem PtrsF.cellj {b o : Nat} (h : PtrsF M w (some ⟨b, o, none⟩) n g) (hj : j < n) : w.cell? ⟨b, o + j, none⟩ = some (.pointer (some ⟨g j, 0, none⟩)) := by
  obtain ⟨b', o', e, _, _, hc⟩ := h.at_ hj
  injection e with e
  injection e with e1 e2
  subst e1; subst e2
  exact hc j hj
theorem NetF.both (h : NetF M w B n g gr ga s R F pv lv) (hj : j < n) (f : Fr w.heap.size (fun k => k = g j ∨ k = gr j ∨ k = ga j) w w') {t : Acc} (ht : AccF M w' B (g j) t) {r' : Rnd} {f' : Nat → Bool} {lv' : Value} (hr : RndF w' M B (gr j) (ga j) n f' r' (pv j) lv') :
    NetF M w' B n g gr ga (upd s j t) (upd R j r') (upd F j f') pv (upd lv j lv') := by
  have hS : ∀ k, (k = g j ∨ k = gr j ∨ k = ga j) → M k := fun k hk => h.om k ⟨j, hj, hk⟩
  refine ⟨⟨fun i hi => ?_, h.accs.in_, h.accs.inj, Nat.le_trans h.accs.hB f.size⟩, fun i hi => ?_, h.inj, fun m hm => ⟨(h.lt m hm).1, Nat.lt_of_lt_of_le (h.lt m hm).2 f.size⟩, h.pos⟩
  · by_cases e : i = j
    · subst e; rw [upd_same]; exact ht
    · rw [upd_other _ _ e]
      exact (h.accs.acc i hi).fr f (Nat.le_refl _) hS (fun k => by
        rcases k with k | k | k
        · exact e (h.accs.inj i j hi hj k)
        · exact (h.apart hi hj).1 k
        · exact (h.apart hi hj).2.1 k)
  · by_cases e : i = j
    · subst e; rw [upd_same, upd_same, upd_same]; exact hr
    · rw [upd_other _ _ e, upd_other _ _ e, upd_other _ _ e]
      have h1 := h.inj i j hi hj e
      exact (h.rnds i hi).fr f (Nat.le_refl _) hS (fun k => by
        rcases k with k | k | k
        · exact (h.apart hj hi).1 k.symm
        · exact h1.1 k
        · exact (h.apart hi hj).2.2 k) (fun k => by
        rcases k with k | k | k
        · exact (h.apart hj hi).2.1 k.symm
        · exact (h.apart hj hi).2.2 k.symm
        · exact h1.2 k)
/-- The letters ahead of one, and those behind it. -/
theorem letc_split (ps : List (Let × Value)) (k : Nat) : letc ps = letc (ps.take k) ++ letc (ps.drop k) := by rw [← letc_append, List.take_append_drop]
theorem LetS.take_rd {q nl cl k : Nat} (h : LetS W M w (.slice (some ⟨q, 0, none⟩) nl cl) ps ls) (hn : nl = ps.length) (hk : k < nl) : Rd w 0 w.heap.size 9 (some ⟨q, 0, none⟩) k (letc (ps.take k)) := by
  obtain ⟨A, c, hv, _, _, hr⟩ := ownsRow_rd h.row
  obtain rfl : some ⟨q, 0, none⟩ = A := by injection hv
  obtain ⟨ad, e, h1, h2, h3⟩ := hr.2 (by omega)
  injection e with e
  subst e
  refine ⟨by rw [letc_length, List.length_take]; congr 1; omega, fun _ => ⟨_, rfl, Nat.zero_le _, h2, fun j u hu => h3 j u ?_⟩⟩
  rw [letc_split ps k, List.getElem?_append_left (List.getElem?_eq_some_iff.1 hu).1]
  exact hu
theorem LetS.drop_rd {q nl cl k : Nat} (h : LetS W M w (.slice (some ⟨q, 0, none⟩) nl cl) ps ls) (hn : nl = ps.length) (hk : k < nl) : Rd w 0 w.heap.size 9 (if cl = k + 1 then some ⟨q, 0, none⟩ else some ⟨q, (k + 1) * 9, none⟩) (nl - (k + 1)) (letc (ps.drop (k + 1))) := by
  obtain ⟨A, c, hv, hc, _, hr⟩ := ownsRow_rd h.row
  obtain ⟨rfl, rfl⟩ : some ⟨q, 0, none⟩ = A ∧ cl = c := by injection hv with a _ b; exact ⟨a, b⟩
  obtain ⟨ad, e, h1, h2, h3⟩ := hr.2 (by omega)
  injection e with e
  subst e
  refine ⟨by rw [letc_length, List.length_drop]; congr 1; omega, fun hm => ⟨⟨q, (k + 1) * 9, none⟩, if_neg (by omega), Nat.zero_le _, h2, fun j u hu => ?_⟩⟩
  have hl : (letc (ps.take (k + 1))).length = (k + 1) * 9 := by rw [letc_length, List.length_take]; congr 1; omega
  have h4 := h3 ((k + 1) * 9 + j) u (by
    rw [letc_split ps (k + 1), List.getElem?_append_right (by omega), hl, Nat.add_sub_cancel_left]
    exact hu)
  rw [Addr.add_mid] at h4 ⊢
  rw [Nat.zero_add] at h4
  exact h4
theorem LetS.one_ (h : LetS W M w Lv ps ls) {ps' : List (Let × Value)} (hs : ∀ p ∈ ps', p ∈ ps) : ∀ u ∈ letc ps', u.oneCell' = true := fun u hu => by
  obtain ⟨p, hp, hq⟩ := List.mem_flatMap.1 hu
  obtain ⟨_, _, h1, _⟩ := h.led p (hs p hp)
  obtain ⟨_, _, h2, _⟩ := h1.form
  simp only [Let.cells, List.mem_cons, List.not_mem_nil, or_false] at hq
  rcases hq with rfl | rfl | rfl | rfl | rfl | rfl | rfl | rfl | rfl <;> first | rfl | (rw [h2]; rfl)
theorem DonS.at_ {k : Nat} {d : List Cmd × Value} (h : DonS W M w Dv ds n v) (hk : ds[k]? = some d) : ∃ q cap, Dv = .slice (some ⟨q, 0, none⟩) ds.length cap ∧ w.cell? ⟨q, k, none⟩ = some d.2 := by
  have hk' := (List.getElem?_eq_some_iff.1 hk).1
  obtain ⟨A, c, hv, hc, _, hr⟩ := ownsRow_rd h.row
  rcases h.row.2 with ⟨_, h0⟩ | ⟨q, cap, cur, e1, e2, e3, e4, e5, e6, e7⟩
  · omega
  · have hb : Blk w q 46 cur := e3
    refine ⟨q, cap, e1, ?_⟩
    rw [hb.cell]
    have h1 : (ds.map (·.2))[k]? = some d.2 := by rw [List.getElem?_map, hk]; rfl
    rw [← e7, List.getElem?_take] at h1
    split at h1
    · rw [← Array.getElem?_toList]; exact h1
    · cases h1
/-- A round that is done: its ledger. -/
theorem Core.done (h : Core W M w B n g gr ga s R F v ls pv lv A Aa Ar) (hi : i < n) (hs : (R i).stage = 3) : DoneL n v (R i).led ∧ (R i).tells = (R i).led ∧ (i ≠ 3 → ¬ (R i).place < 1) := by
  have hr := h.sys.rounds i hi
  obtain ⟨k1, k2, k3⟩ := hr.tel (.inr hs)
  refine ⟨⟨_, k1, hr.don hs⟩, by unfold Rnd.tells; rw [hs]; rfl, fun h3 => ?_⟩
  have hf : (R i).reads = false := by rw [h.rd i hi, decide_eq_false h3]
  have := k3 hf
  unfold Rnd.place
  rw [hs, hf, if_pos (by rfl), if_neg (by decide)]
  omega
theorem NetF.notRow' {q : Nat} {cs : Array Value} (h : NetF M w B n g gr ga s R F pv lv) (hb : Blk w q 131 cs) : ¬ NetO n g gr ga q := h.notRow hb (by decide) (by decide) (by decide)
/-- A ledger apart from M in w is so behind steps that only make memory, for M grown by what is new. -/
theorem Lf.below' {u : Value} {l : List Cmd} {M' : Nat → Prop} (h : Lf M w u l) (b : Below w.heap.size w w') (hM : ∀ m, M m → m < w.heap.size) (hx : ∀ m, M' m → M m ∨ w.heap.size ≤ m) : Lf M' w' u l := (h.grow hx).below b
/-- What a step of the net comes to. -/
def SentPost (W : World) (M : Nat → Prop) (B n : Nat) (g gr ga : Nat → Nat) (pv : Nat → Value) (A : Nat → Addr) (Aa Ar : Option Addr) (Lv Dv : Value) (ps : List (Let × Value)) (ds : List (List Cmd × Value)) (w : World) (e : Ending) (w' : World) : Prop :=
  ∃ v1 ps' s' R' F' v' ls' lv', e = .returned v1 ∧ LetsAt M w' w.heap.size v1 ps' ∧ Agr W M w' B n g gr ga s' R' F' v' ls' pv lv' A Aa Ar Lv Dv ps ds ∧ (∀ p ∈ ps', p.1 ∈ ls') ∧ ps'.length ≤ n ∧ Fr w.heap.size (NetO n g gr ga) w w'
theorem Agr.begins (h : Agr W M w B n g gr ga s R F v ls pv lv A Aa Ar Lv Dv ps ds) (hi : i < n) : Calls Tryd.prog 67 #[.pointer (some ⟨g i, 0, none⟩), .pointer (some ⟨gr i, 0, none⟩), .int .i64 i] w (SentPost W M B n g gr ga pv A Aa Ar Lv Dv ps ds w) := by
  obtain ⟨lo, hi', hA, hAM⟩ := h.core.net.accs.acc i hi
  refine (begins13_any w M B lo hi' (g i) (gr i) (ga i) n i A (s i) (F i) (R i) (pv i) (lv i) hA hAM (h.core.net.accs.in_ i hi) (h.core.sys.good i hi) (h.core.net.rnds i hi) h.core.net.lt h.core.e13 h.core.net.pos).mono ?_
  rintro e w' ⟨v1, ps', f', r', l', rfl, L1, A1, R1, F1, hc⟩
  have N1 := h.core.net.both hi F1 ⟨lo, hi', A1, hAM⟩ R1
  have F2 : Fr w.heap.size (NetO n g gr ga) w w' := F1.mono (Nat.le_refl _) (fun k _ hk => ⟨i, hi, hk⟩)
  have S1 := h.core.sys.claim i (R i).br
  have hx : Ext s v (upd s i ((s i).clm (R i).br)) v := Ext.of_eq (aofs_clm s i _)
  rcases hc with ⟨rfl, rfl, rfl⟩ | ⟨hq, _, hl, ha, rfl, rfl, rfl⟩
  · rw [upd_self, upd_self] at N1
    exact ⟨v1, [], _, R, F, v, ls, _, rfl, L1, h.turn N1 F2 S1 hx (fun _ h => h) h.core.rd, fun p hp => (by cases hp), Nat.zero_le _, F2⟩
  · have hb : (s i).clmN (R i).br = i := by rw [clm_zero hq]; exact h.core.sys.node i hi
    have S2 := S1.begun hi _ _ hb hl ha
    refine ⟨v1, _, _, _, _, v, _, _, rfl, L1, h.turn N1 F2 S2 hx (fun _ h => List.mem_append_left _ h) (fun q hqn => ?_), fun p hp => List.mem_append_right _ ?_, ?_, F2⟩
    · unfold upd
      split
      · rename_i e; subst e; exact h.core.rd _ hqn
      · exact h.core.rd q hqn
    · obtain ⟨x, hx, rfl⟩ := List.mem_map.1 hp
      exact List.mem_map.2 ⟨x, hx, rfl⟩
    · simp only [asksL, List.length_map]
      exact missL_len _ _ _
theorem took_rd13 (r : Rnd) (n : Nat) (f : Nat → Bool) (j : Nat) : (r.took n f j).reads = r.reads := rfl
theorem newer_rd13 (r : Rnd) (ar an : Int) (l : List Cmd) : (r.newer ar an l).reads = r.reads := by unfold Rnd.newer; split <;> rfl
theorem tell_rd13 (r : Rnd) : r.tell.reads = r.reads := by unfold Rnd.tell; split; rfl; split <;> rfl
theorem promised_rd13 (r : Rnd) (n : Nat) (f : Nat → Bool) (j : Nat) (ar an : Int) (l : List Cmd) : (r.promised n f j ar an l).reads = r.reads := by
  unfold Rnd.promised
  split
  · rw [tell_rd13, newer_rd13]
  · rw [newer_rd13]
theorem Delv.rd {l : Let} {s' : Nat → Acc} {R' : Nat → Rnd} {F' : Nat → Nat → Bool} {ls' : List Let} (h : Delv n s R F l s' R' F' ls') (hn : 0 < n) (hr : ∀ i, i < n → (R i).reads = decide (i = 3)) : (∀ i, i < n → (R' i).reads = decide (i = 3)) ∧ ls'.length ≤ n := by
  have hu : ∀ (r' : Rnd), r'.reads = (R l.who).reads → ∀ i, i < n → ((upd R l.who r') i).reads = decide (i = 3) := fun r' e i hi => by
    unfold upd
    split
    · rename_i h; subst h; rw [e]; exact hr _ hi
    · exact hr i hi
  rcases h with ⟨_, _, rfl, _, _, rfl⟩ | ⟨_, _, rfl, _, _, rfl⟩ | ⟨_, _, _, rfl, h3⟩ | ⟨_, _, _, h3⟩
  · refine ⟨hr, ?_⟩
    split <;> simp
    omega
  · refine ⟨hr, ?_⟩
    split <;> simp
    omega
  · rcases h3 with ⟨rfl, _⟩ | ⟨_, _, _, rfl, _⟩
    · exact ⟨hr, Nat.zero_le _⟩
    · exact ⟨hu _ (took_rd13 _ _ _ _), Nat.zero_le _⟩
  · rcases h3 with ⟨rfl, _, rfl⟩ | ⟨_, _, _, rfl, _, rfl | ⟨_, rfl⟩⟩
    · exact ⟨hr, Nat.zero_le _⟩
    · exact ⟨hu _ (promised_rd13 _ _ _ _ _ _ _), Nat.zero_le _⟩
    · exact ⟨hu _ (promised_rd13 _ _ _ _ _ _ _), by rw [List.length_map]; exact missL_len _ _ _⟩
theorem Agr.deliver {l : Let} {ov : Value} (h : Agr W M w B n g gr ga s R F v ls pv lv A Aa Ar Lv Dv ps ds) (hl : l ∈ ls) (hL : Lf M w ov l.led) (ca cr : Nat) : Calls Tryd.prog 68 #[.slice Aa n ca, .slice Ar n cr, .agg (l.cells ov).toArray] w (SentPost W M B n g gr ga pv A Aa Ar Lv Dv ps ds w) := by
  have hk := h.core.sys.letters l hl
  refine (deliver13 ca cr ⟨h.core.net, h.core.as_, h.core.rs, hL, hk.1, hk.2.1, h.core.e13⟩).mono ?_
  rintro e w' ⟨v1, ps', s', R', F', lv', rfl, L1, N1, F1, hd⟩
  obtain ⟨v', S1, hx⟩ := h.core.sys.deliver hk hd
  obtain ⟨h1, h2⟩ := hd.rd h.core.net.pos h.core.rd
  exact ⟨v1, ps', s', R', F', v', _, lv', rfl, L1, h.turn N1 F1 S1 hx (fun _ h => List.mem_append_left _ h) h1, fun p hp => List.mem_append_right _ (List.mem_map.2 ⟨p, hp, rfl⟩), by rw [List.length_map] at h2; exact h2, F1⟩
end
/-- Behind k steps of the script. -/
def AgrL (W : World) (B n : Nat) (g gr ga : Nat → Nat) (pv : Nat → Value) (A : Nat → Addr) (Aa Ar : Option Addr) (k : Nat) (Lv Dv : Value) (w : World) : Prop :=
  ∃ M s R F v ls lv ps ds, Agr W M w B n g gr ga s R F v ls pv lv A Aa Ar Lv Dv ps ds ∧ ps.length ≤ 5 * k ∧ ds.length ≤ k
end Go.Proofs.YtnlncfjibbdimaaDoor
