/-
  The command reader's contracts by what is left to be read; append of one number.
-/
import Derived.Test.YtnlncfjibbdimaaDoorRdrA
import Derived.Test.YtnlncfjibbdimaaDoorPutAny
namespace Go.Proofs.YtnlncfjibbdimaaDoor
open Go.RowKit
set_option linter.unusedSimpArgs false
set_option linter.unusedVariables false

/-- A reader at block g that has R left to read. -/
def Rem (w : World) (lo g : Nat) (R : List Nat) : Prop := ∃ bs q, RdrAt w lo g bs q ∧ R = bs.drop q
theorem Rem.below {w w' : World} {lo g B : Nat} {R : List Nat} (h : Rem w lo g R) (f : Below B w w') (hB : w.heap.size ≤ B) : Rem w' lo g R := by
  obtain ⟨bs, q, h1, h2⟩ := h
  exact ⟨bs, q, h1.below f hB, h2⟩
theorem Rem.drew {w : World} {lo g : Nat} {R : List Nat} (h : Rem w lo g R) : Rem w.drew lo g R := h.below ((Below.refl w.heap.size w).drew) (Nat.le_refl _)
theorem Rem.alloc {w : World} {lo g : Nat} {R : List Nat} (h : Rem w lo g R) (o : Obj) : Rem (w.alloc o) lo g R := h.below ((Below.refl w.heap.size w).alloc (Nat.le_refl _) o) (Nat.le_refl _)
theorem Rem.far {w : World} {lo g y : Nat} {R : List Nat} {t : TypeId} {cs : Array Value} (h : Rem w lo g R) (hB : Blk w y t cs) (ht : t ≠ 5) (hy : g ≠ y) (i : Nat) (u : Value) : Rem (w.setCell ⟨y, i, none⟩ u) lo g R := by
  obtain ⟨bs, q, h1, h2⟩ := h
  exact ⟨bs, q, h1.far hB ht hy i u, h2⟩
theorem Rem.lt {w : World} {lo g : Nat} {R : List Nat} (h : Rem w lo g R) : lo ≤ g ∧ g < w.heap.size := by
  obtain ⟨bs, q, h1, h2⟩ := h
  exact ⟨h1.1, h1.lt⟩

/-- v was read, and R is left. -/
def Got (lo g : Nat) (v : Value) (R : List Nat) (w : World) (e : Ending) (w' : World) : Prop := e = .returned v ∧ Rem w' lo g R ∧ Fr w.heap.size (fun k => k = g) w w'

theorem rd_num {w : World} {lo g : Nat} {n : Int} {R : List Nat} (h : Rem w lo g (encI n ++ R)) (hn : inG n) : Calls Tryd.prog 148 #[.agg #[.pointer (some ⟨g, 0, none⟩)]] w (Got lo g (.int .i64 n) R w) := by
  obtain ⟨bs, q, h1, h2⟩ := h
  unfold inG at hn
  refine (rgnum_good w lo g q n.toNat bs R h1 (by rw [← h2]; exact dec_enc _ _ (by omega)) (by omega)).mono ?_
  rintro e w' ⟨q', h3, rfl, h4, h5⟩
  exact ⟨by rw [Int.toNat_of_nonneg hn.1], ⟨bs, q', h4, h3⟩, h5⟩
theorem rd_text {w : World} {lo g : Nat} {s : ByteArray} {R : List Nat} (h : Rem w lo g (encS s ++ R)) (hs : s.size ≤ 200) : Calls Tryd.prog 150 #[.agg #[.pointer (some ⟨g, 0, none⟩)]] w (Got lo g (.string s) R w) := by
  obtain ⟨bs, q, h1, h2⟩ := h
  refine (rgtext_good w lo g q bs R s h1 (by rw [← h2]; unfold encS; rw [List.append_assoc]; exact dec_enc _ _ (by omega)) hs).mono ?_
  rintro e w' ⟨q', h3, rfl, h4, h5⟩
  exact ⟨rfl, ⟨bs, q', h4, h3⟩, h5⟩
theorem rd_id {w : World} {lo g : Nat} {a b c : Int} {R : List Nat} (h : Rem w lo g (encI a ++ encI b ++ encI c ++ R)) (ha : inG a) (hb : inG b) (hc : inG c) : Calls Tryd.prog 149 #[.agg #[.pointer (some ⟨g, 0, none⟩)]] w (Got lo g (.agg #[.int .i64 a, .int .i64 b, .int .i64 c]) R w) := by
  obtain ⟨bs, q, h1, h2⟩ := h
  unfold inG at ha hb hc
  refine (rgid_good w lo g q a.toNat b.toNat c.toNat bs (enc b.toNat ++ (enc c.toNat ++ R)) (enc c.toNat ++ R) R h1 (by rw [← h2]; simp only [encI, List.append_assoc]; exact dec_enc _ _ (by omega)) (dec_enc _ _ (by omega)) (dec_enc _ _ (by omega)) (by omega) (by omega) (by omega)).mono ?_
  rintro e w' ⟨q', h3, rfl, h4, h5⟩
  exact ⟨by rw [Int.toNat_of_nonneg ha.1, Int.toNat_of_nonneg hb.1, Int.toNat_of_nonneg hc.1], ⟨bs, q', h4, h3⟩, h5⟩

end Go.Proofs.YtnlncfjibbdimaaDoor

namespace Go.Proofs.YtnlncfjibbdimaaDoor
open Go.RowKit
set_option linter.unusedSimpArgs false
set_option linter.unusedVariables false

theorem Rem.frT {w w' : World} {lo g B : Nat} {R : List Nat} {S : Nat → Prop} (h : Rem w lo g R) (f : Fr B S w w') (hB : w.heap.size ≤ B) (hS : ∀ k, S k → ∃ cs, Blk w k 3 cs) : Rem w' lo g R := by
  have hno : ∀ (k : Nat) (t : TypeId) (cs : Array Value), Blk w k t cs → t ≠ 3 → ¬ S k := fun k t cs hb ht hs => by
    obtain ⟨cs', h'⟩ := hS k hs
    unfold Blk at hb h'
    rw [hb] at h'
    injection h' with h'
    injection h' with _ h'
    exact ht h'
  obtain ⟨bs, q, ⟨h1, h2, h3, h4, A, c, hb, ho⟩, h6⟩ := h
  refine ⟨bs, q, ⟨h1, h2, h3, h4, A, c, hb.fr f (Nat.lt_of_lt_of_le hb.lt hB) (hno _ _ _ hb (by decide)), ?_⟩, h6⟩
  refine ⟨ho.1, ?_⟩
  rcases ho.2 with h7 | ⟨k, cap, cur, he, hb', hh, hr⟩
  · exact .inl h7
  · have hk : Blk w k 5 cur := hh
    exact .inr ⟨k, cap, cur, he, hb', Blk.fr hk f (Nat.lt_of_lt_of_le hk.lt hB) (hno _ _ _ hk (by decide)), hr⟩

theorem app3 {o : Oper} {a : Act} {W : World} {K : Act → World → Prop} {Q : Exit → Act → World → Prop} (s x : Operand) (lo c n : Nat) (A : Option Addr) (xs : List Int) (v : Int) (hn : n = xs.length)
    (ho : o.op = .call { callee := .builtin .append, args := #[s, x], argTypes := #[40, 40] }) (hs : a.eval s = .slice A n c) (hO : OwnInts W lo W.heap.size (.slice A xs.length c) xs) (hlo : lo ≤ W.heap.size)
    (hx : a.eval x = .slice (some ⟨W.heap.size, 0, none⟩) 1 1) (hl : xs.length ≤ 1000)
    (h : ∀ A' c' W', OwnInts W' lo W'.heap.size (.slice A' (n + 1) c') (xs ++ [v]) → (∀ (y : Nat) (t : TypeId) (cs : Array Value), t ≠ 3 → Blk W y t cs → Blk W' y t cs) → (∀ (l g : Nat) (R : List Nat), Rem W l g R → Rem W' l g R) →
      (∀ (B : Nat) (S : Nat → Prop) (w0 : World), B ≤ lo → Fr B S w0 W → Fr B S w0 W') → K (a.put o.dst (.slice A' (n + 1) c')) W') : o.wp Tryd.prog a (W.alloc (.cells #[.int .i64 v] 3)) K Q := by
  subst hn
  obtain ⟨i0, hi0, hz0, hz1, hz2⟩ := info_parts int_info
  have hB0 : Below W.heap.size W (W.alloc (.cells #[.int .i64 v] 3)) := (Below.refl _ _).alloc (Nat.le_refl _) _
  have hO1 := hO.fr (Fr.of_below hB0 (fun _ => False)) (Nat.le_refl _) (fun _ _ _ h => h)
  have hrd : Rd (W.alloc (.cells #[.int .i64 v] 3)) W.heap.size (W.heap.size + 1) 1 (some ⟨W.heap.size, 0, none⟩) 1 (ints [v]) :=
    ⟨rfl, fun _ => ⟨_, rfl, Nat.le_refl _, Nat.lt_succ_self _, fun j u hu => by rw [Addr.add_mid, Nat.zero_add, (Blk.new W 3 _).cell j]; simpa [ints] using hu⟩⟩
  refine wp_append_any _ s x 40 ho lo 3 i0 _ 1 8 Tryd.underlying40 hi0 hz0 hz1 hz2 rfl (by decide) (.slice A xs.length c) xs.length (ints xs) hs hO1.1.1 W.heap.size (W.heap.size + 1) (some ⟨W.heap.size, 0, none⟩) 1 1 (ints [v]) hx hrd (ints_oneCell _) (by simp only [maxLen]; omega) (by omega) (by simp; omega) ?_
  intro v1 w1 hown1 hg1 hat1
  have hR : OwnRow w1 lo w1.heap.size 3 1 v1 (xs.length + 1) (ints xs ++ ints [v]) := ⟨hown1, fun g hg => (hown1.lt g hg).2⟩
  obtain ⟨A1, c1, hv1, _⟩ := hR.form
  subst hv1
  have hown := hO1.1.1
  have hf3 : Fr (W.alloc (.cells #[.int .i64 v] 3)).heap.size (fun k => ∃ cs, Blk (W.alloc (.cells #[.int .i64 v] 3)) k 3 cs) (W.alloc (.cells #[.int .i64 v] 3)) w1 := (Fr.refl _ _ _).grown hg1 (Nat.le_refl _) (fun k hk => .inl (own_blk hown hk))
  refine h A1 c1 w1 ⟨?_, by simp; omega⟩ (fun y t cs ht hb => (hb.alloc _).grown hg1 (own_ne_blk hown (hb.alloc _) ht)) (fun l g R hr => (hr.alloc _).frT hf3 (Nat.le_refl _) (fun _ h => h)) (fun B S w0 hB f => (f.alloc (Nat.le_trans hB hlo) _).grown hg1 (by simp; omega) (fun k hk => .inr (Nat.le_trans hB (hown.lt k hk).1)))
  have e1 : ints (xs ++ [v]) = ints xs ++ ints [v] := by simp [ints]
  have e2 : (xs ++ [v]).length = xs.length + 1 := by simp
  rw [e1, e2]
  exact hR

end Go.Proofs.YtnlncfjibbdimaaDoor
