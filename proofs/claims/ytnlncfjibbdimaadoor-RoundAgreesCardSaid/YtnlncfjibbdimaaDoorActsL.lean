/-
  Each call of an acceptor, and of the document's, as one contract; where its ledger lies is told (from block lo to hi).
-/
import Derived.Test.YtnlncfjibbdimaaDoorActs
namespace Go.Proofs.YtnlncfjibbdimaaDoor
open Go.RowKit
set_option linter.unusedSimpArgs false
set_option linter.unusedVariables false

/-- An acceptor (type 156) or the document's (59) at block g: its ledger lies in blocks lo to hi. -/
def AccL (w : World) (B lo hi g : Nat) (t : TypeId) (s : Acc) : Prop := g < B ∧ B ≤ lo ∧ hi ≤ w.heap.size ∧ ∃ v, Blk w g t (s.cells v) ∧ LedAt w lo hi v s.led

theorem AccIn.l {w : World} {B g : Nat} {t : TypeId} {s : Acc} (h : AccIn w B g t s) : AccL w B B w.heap.size g t s := ⟨h.1, Nat.le_refl _, Nat.le_refl _, h.2.2⟩
theorem AccL.in_ {w : World} {B lo hi g : Nat} {t : TypeId} {s : Acc} (h : AccL w B lo hi g t s) (hB : B ≤ w.heap.size) : AccIn w B g t s := by
  obtain ⟨h1, h2, h3, v, h4, h5⟩ := h
  exact ⟨h1, hB, v, h4, h5.wider h2 h3⟩
theorem AccL.fr {w w' : World} {B B' lo hi g : Nat} {t : TypeId} {s : Acc} {S : Nat → Prop} (h : AccL w B lo hi g t s) (f : Fr B' S w w') (hB : w.heap.size ≤ B') (hg : ¬ S g) (hS : ∀ k, lo ≤ k → k < hi → ¬ S k) : AccL w' B lo hi g t s := by
  obtain ⟨h1, h2, h3, v, h4, h5⟩ := h
  exact ⟨h1, h2, Nat.le_trans h3 f.size, v, h4.fr f (Nat.lt_of_lt_of_le h4.lt hB) hg, h5.fr f (by omega) hS⟩
theorem AccL.below {w w' : World} {B B' lo hi g : Nat} {t : TypeId} {s : Acc} (h : AccL w B lo hi g t s) (f : Below B' w w') (hB : w.heap.size ≤ B') : AccL w' B lo hi g t s :=
  h.fr (Fr.of_below f (fun _ => False)) hB (fun h => h) (fun _ _ _ h => h)

section
variable {A : Nat → Addr} {w : World} {B lo hi g : Nat} {s : Acc} {r n : Int}

def PrepL (A : Nat → Addr) (B lo hi g : Nat) (s : Acc) (r n : Int) (w : World) (e : Ending) (w' : World) : Prop :=
  ∃ C k c, e = .returned (.tuple #[.agg #[.int .i64 (s.toldR r n), .int .i64 (s.toldN r n)], .slice C k c, errq A (s.refuse r n)]) ∧ Fr w.heap.size (· = g) w w' ∧ AccL w' B lo hi g 156 (s.prep r n) ∧ OwnLed w' w.heap.size w'.heap.size (.slice C k c) (s.toldL r n)

theorem prepare_l (h : AccL w B lo hi g 156 s) (h0 : w.cell? ⟨0, 0, none⟩ = some (errv (A 0))) (h3 : w.cell? ⟨3, 0, none⟩ = some (errv (A 3))) :
    Calls Tryd.prog 31 #[.pointer (some ⟨g, 0, none⟩), .agg #[.int .i64 r, .int .i64 n]] w (PrepL A B lo hi g s r n w) := by
  obtain ⟨hg, hB, hh, v, hb, hl⟩ := h
  rcases refuse_cases s r n with ⟨h1, hr⟩ | ⟨h1, h2, hr⟩ | ⟨h1, h2, hr⟩
  · refine (prepare_num g r n (A 0) w h0 h1).mono ?_
    rintro e w' ⟨rfl, hw⟩
    refine ⟨none, 0, 0, ?_, Fr.of_below hw _, ?_, ?_⟩
    · simp [Acc.toldR, Acc.toldN, hr, errq]
    · simp only [Acc.prep, hr]
      exact AccL.below (w := w) ⟨hg, hB, hh, v, hb, hl⟩ hw (Nat.le_refl _)
    · simp only [Acc.toldL, hr]
      exact OwnLed.nil_ _ _ _
  · refine (prepare_bal g s v r n (A 3) w h3 hb h1 h2).mono ?_
    rintro e w' ⟨rfl, hw⟩
    refine ⟨none, 0, 0, ?_, Fr.of_below hw _, ?_, ?_⟩
    · simp [Acc.toldR, Acc.toldN, hr, errq]
    · simp only [Acc.prep, hr]
      exact AccL.below (w := w) ⟨hg, hB, hh, v, hb, hl⟩ hw (Nat.le_refl _)
    · simp only [Acc.toldL, hr]
      exact OwnLed.nil_ _ _ _
  · refine (prepare_ok g lo hi s v r n w hb hl hh (.inl (by omega)) h1 h2).mono ?_
    rintro e w' ⟨v', rfl, hf, hb', ho⟩
    obtain ⟨C, c, rfl, _⟩ := ho.at_.form
    refine ⟨C, s.led.length, c, ?_, hf, ?_, ?_⟩
    · simp [Acc.toldR, Acc.toldN, hr, errq]
    · simp only [Acc.prep, hr, if_true]
      exact ⟨hg, hB, Nat.le_trans hh hf.size, v, hb', hl.fr hf hh (fun k h1 h2 h3 => by omega)⟩
    · simp only [Acc.toldL, hr, if_true]
      exact ho

def RPrepL (B lo hi g : Nat) (s : Acc) (r n : Int) (w : World) (e : Ending) (w' : World) : Prop :=
  ∃ C k c, e = .returned (.tuple #[.agg #[.int .i64 (s.toldR r n), .int .i64 (s.toldN r n)], .slice C k c, .int .i64 (s.refuse r n)]) ∧ Fr w.heap.size (· = g) w w' ∧ AccL w' B lo hi g 59 (s.prep r n) ∧ LedAt w' lo hi (.slice C k c) (s.toldL r n)

theorem rprepare_l (h : AccL w B lo hi g 59 s) :
    Calls Tryd.prog 85 #[.pointer (some ⟨g, 0, none⟩), .agg #[.int .i64 r, .int .i64 n]] w (RPrepL B lo hi g s r n w) := by
  obtain ⟨hg, hB, hh, v, hb, hl⟩ := h
  obtain ⟨C, c, rfl, _⟩ := hl.form
  refine (rprepare_any g s C _ c r n w hb).mono ?_
  rintro e w' ⟨p1, p2, p3⟩
  rcases refuse_cases s r n with ⟨h1, hr⟩ | ⟨h1, h2, hr⟩ | ⟨h1, h2, hr⟩
  · obtain ⟨rfl, hw⟩ := p1 h1
    refine ⟨none, 0, 0, ?_, Fr.of_below hw _, ?_, ?_⟩
    · simp [Acc.toldR, Acc.toldN, hr]
    · simp only [Acc.prep, hr]
      exact AccL.below (w := w) ⟨hg, hB, hh, _, hb, hl⟩ hw (Nat.le_refl _)
    · simp only [Acc.toldL, hr]
      exact (OwnLed.nil_ _ _ _).at_
  · obtain ⟨rfl, hw⟩ := p2 h1 h2
    refine ⟨none, 0, 0, ?_, Fr.of_below hw _, ?_, ?_⟩
    · simp [Acc.toldR, Acc.toldN, hr]
    · simp only [Acc.prep, hr]
      exact AccL.below (w := w) ⟨hg, hB, hh, _, hb, hl⟩ hw (Nat.le_refl _)
    · simp only [Acc.toldL, hr]
      exact (OwnLed.nil_ _ _ _).at_
  · obtain ⟨rfl, hf, hb'⟩ := p3 h1 h2
    have hl' := hl.fr hf hh (fun k h1 h2 h3 => by omega)
    refine ⟨C, s.led.length, c, ?_, hf, ?_, ?_⟩
    · simp [Acc.toldR, Acc.toldN, hr]
    · simp only [Acc.prep, hr, if_true]
      exact ⟨hg, hB, Nat.le_trans hh hf.size, _, hb', hl'⟩
    · simp only [Acc.toldL, hr, if_true]
      exact hl'

/-- Where the ledger lies behind an accepting: where it lay, or in memory of the call's own. -/
def Moved (w : World) (lo hi lo' hi' : Nat) : Prop := (lo' = lo ∧ hi' = hi) ∨ w.heap.size ≤ lo'

def TakeL (A : Nat → Addr) (B lo hi g : Nat) (s : Acc) (r n : Int) (l : List Cmd) (w : World) (e : Ending) (w' : World) : Prop :=
  e = .returned (errq A (s.refuse r n)) ∧ Fr w.heap.size (· = g) w w' ∧ ∃ lo' hi', AccL w' B lo' hi' g 156 (s.take r n l) ∧ Moved w lo hi lo' hi'

theorem accept_l {lo1 hi1 : Nat} {lv : Value} {l : List Cmd} (h : AccL w B lo hi g 156 s) (hBw : B ≤ w.heap.size) (h0 : w.cell? ⟨0, 0, none⟩ = some (errv (A 0))) (h3 : w.cell? ⟨3, 0, none⟩ = some (errv (A 3))) (hL : LedAt w lo1 hi1 lv l) (hhi : hi1 ≤ w.heap.size) (hlo : g < lo1 ∨ hi1 ≤ g) :
    Calls Tryd.prog 32 #[.pointer (some ⟨g, 0, none⟩), .agg #[.int .i64 r, .int .i64 n], lv] w (TakeL A B lo hi g s r n l w) := by
  obtain ⟨hg, hB, hh, v, hb, hl⟩ := h
  rcases refuse_cases s r n with ⟨h1, hr⟩ | ⟨h1, h2, hr⟩ | ⟨h1, h2, hr⟩
  · refine (accept_num g r n lv (A 0) w h0 h1).mono ?_
    rintro e w' ⟨rfl, hw⟩
    refine ⟨by simp [hr, errq], Fr.of_below hw _, lo, hi, ?_, .inl ⟨rfl, rfl⟩⟩
    simp only [Acc.take, hr]
    exact AccL.below (w := w) ⟨hg, hB, hh, v, hb, hl⟩ hw (Nat.le_refl _)
  · refine (accept_bal g s v r n lv (A 3) w h3 hb h1 h2).mono ?_
    rintro e w' ⟨rfl, hw⟩
    refine ⟨by simp [hr, errq], Fr.of_below hw _, lo, hi, ?_, .inl ⟨rfl, rfl⟩⟩
    simp only [Acc.take, hr]
    exact AccL.below (w := w) ⟨hg, hB, hh, v, hb, hl⟩ hw (Nat.le_refl _)
  · refine (accept_ok g lo1 hi1 s v r n lv l w hb hL hhi hlo h1 h2).mono ?_
    rintro e w' ⟨rfl, hf, v', hb', ho⟩
    refine ⟨by simp [hr, errq], hf, w.heap.size, w'.heap.size, ?_, .inr (Nat.le_refl _)⟩
    simp only [Acc.take, hr, if_true]
    exact ⟨hg, hBw, Nat.le_refl _, v', hb', ho.at_⟩

def RTakeL (B lo hi g : Nat) (s : Acc) (r n : Int) (l : List Cmd) (w : World) (e : Ending) (w' : World) : Prop :=
  e = .returned (.int .i64 (s.refuse r n)) ∧ Fr w.heap.size (· = g) w w' ∧ ∃ lo' hi', AccL w' B lo' hi' g 59 (s.take r n l) ∧ Moved w lo hi lo' hi'

theorem raccept_l {lo1 hi1 : Nat} {lv : Value} {l : List Cmd} (h : AccL w B lo hi g 59 s) (hBw : B ≤ w.heap.size) (hL : LedAt w lo1 hi1 lv l) (hhi : hi1 ≤ w.heap.size) (hlo : g < lo1 ∨ hi1 ≤ g) :
    Calls Tryd.prog 87 #[.pointer (some ⟨g, 0, none⟩), .agg #[.int .i64 r, .int .i64 n], lv] w (RTakeL B lo hi g s r n l w) := by
  obtain ⟨hg, hB, hh, v, hb, hl⟩ := h
  obtain ⟨C, c, rfl, _⟩ := hl.form
  refine (raccept_any g lo1 hi1 s C _ c r n lv l w hb hL hhi hlo).mono ?_
  rintro e w' ⟨p1, p2, p3⟩
  rcases refuse_cases s r n with ⟨h1, hr⟩ | ⟨h1, h2, hr⟩ | ⟨h1, h2, hr⟩
  · obtain ⟨rfl, hw⟩ := p1 h1
    refine ⟨by simp [hr], Fr.of_below hw _, lo, hi, ?_, .inl ⟨rfl, rfl⟩⟩
    simp only [Acc.take, hr]
    exact AccL.below (w := w) ⟨hg, hB, hh, _, hb, hl⟩ hw (Nat.le_refl _)
  · obtain ⟨rfl, hw⟩ := p2 h1 h2
    refine ⟨by simp [hr], Fr.of_below hw _, lo, hi, ?_, .inl ⟨rfl, rfl⟩⟩
    simp only [Acc.take, hr]
    exact AccL.below (w := w) ⟨hg, hB, hh, _, hb, hl⟩ hw (Nat.le_refl _)
  · obtain ⟨rfl, hf, v', hb', ho⟩ := p3 h1 h2
    refine ⟨by simp [hr], hf, w.heap.size, w'.heap.size, ?_, .inr (Nat.le_refl _)⟩
    simp only [Acc.take, hr, if_true]
    exact ⟨hg, hBw, Nat.le_refl _, v', hb', ho.at_⟩

def ClmL (A : Nat → Addr) (B lo hi g : Nat) (s : Acc) (r : Int) (w : World) (e : Ending) (w' : World) : Prop :=
  e = .returned (.tuple #[.agg #[.int .i64 (s.clmR r), .int .i64 (s.clmN r)], errq A (s.clmQ r)]) ∧ Fr w.heap.size (· = g) w w' ∧ AccL w' B lo hi g 156 (s.clm r)

theorem claim_l (h : AccL w B lo hi g 156 s) (hs : s.Good) (h4 : w.cell? ⟨4, 0, none⟩ = some (errv (A 4))) :
    Calls Tryd.prog 33 #[.pointer (some ⟨g, 0, none⟩), .agg #[.int .i64 r, .int .i64 n]] w (ClmL A B lo hi g s r w) := by
  obtain ⟨hg, hB, hh, v, hb, hl⟩ := h
  by_cases ht : s.top r < 1099511627776
  · refine (claim_ok g s v r n w hb hs.1 hs.2.2.1 ht).mono ?_
    rintro e w' ⟨rfl, hf, hb'⟩
    refine ⟨by simp [Acc.clmR, Acc.clmN, Acc.clmQ, ht, errq], hf, ?_⟩
    simp only [Acc.clm, if_pos ht]
    exact ⟨hg, hB, Nat.le_trans hh hf.size, v, hb', hl.fr hf hh (fun k h1 h2 h3 => by omega)⟩
  · refine (claim_full g s v r n (A 4) w h4 hb (by omega)).mono ?_
    rintro e w' ⟨rfl, hw⟩
    refine ⟨by simp [Acc.clmR, Acc.clmN, Acc.clmQ, ht, errq], Fr.of_below hw _, ?_⟩
    simp only [Acc.clm, if_neg ht]
    exact AccL.below (w := w) ⟨hg, hB, hh, v, hb, hl⟩ hw (Nat.le_refl _)

def RClmL (B lo hi g : Nat) (s : Acc) (r : Int) (w : World) (e : Ending) (w' : World) : Prop :=
  e = .returned (.tuple #[.agg #[.int .i64 (s.clmR r), .int .i64 (s.clmN r)], .int .i64 (s.clmQ r)]) ∧ Fr w.heap.size (· = g) w w' ∧ AccL w' B lo hi g 59 (s.clm r)

theorem rclaim_l (h : AccL w B lo hi g 59 s) (hs : s.Good) :
    Calls Tryd.prog 88 #[.pointer (some ⟨g, 0, none⟩), .agg #[.int .i64 r, .int .i64 n]] w (RClmL B lo hi g s r w) := by
  obtain ⟨hg, hB, hh, v, hb, hl⟩ := h
  refine (rclaim_any g s v r n w hb hs.1 hs.2.1).mono ?_
  rw [rtop_top hs.2.1 hs.2.2.2]
  have hr := Acc.top_rng hs r
  rintro e w' ⟨p1, p2⟩
  by_cases ht : s.top r < 1099511627776
  · obtain ⟨rfl, hf, hb'⟩ := p2 (by omega)
    refine ⟨by simp [Acc.clmR, Acc.clmN, Acc.clmQ, ht], hf, ?_⟩
    simp only [Acc.clm, if_pos ht]
    exact ⟨hg, hB, Nat.le_trans hh hf.size, v, hb', hl.fr hf hh (fun k h1 h2 h3 => by omega)⟩
  · obtain ⟨rfl, hw⟩ := p1 (by omega)
    refine ⟨by simp [Acc.clmR, Acc.clmN, Acc.clmQ, ht], Fr.of_below hw _, ?_⟩
    simp only [Acc.clm, if_neg ht]
    exact AccL.below (w := w) ⟨hg, hB, hh, v, hb, hl⟩ hw (Nat.le_refl _)

def AskL (B lo hi g : Nat) (s : Acc) (w : World) (e : Ending) (w' : World) : Prop :=
  ∃ C k c, e = .returned (.tuple #[.agg #[.int .i64 s.ar, .int .i64 s.an], .slice C k c]) ∧ Below w.heap.size w w' ∧ OwnLed w' w.heap.size w'.heap.size (.slice C k c) s.led

theorem accepted_l (h : AccL w B lo hi g 156 s) : Calls Tryd.prog 34 #[.pointer (some ⟨g, 0, none⟩)] w (AskL B lo hi g s w) := by
  obtain ⟨hg, hB, hh, v, hb, hl⟩ := h
  refine (accepted_any g lo hi s v w hb hl hh).mono ?_
  rintro e w' ⟨v', rfl, hw, ho⟩
  obtain ⟨C, c, rfl, _⟩ := ho.at_.form
  exact ⟨C, _, c, rfl, hw, ho⟩

end
end Go.Proofs.YtnlncfjibbdimaaDoor
