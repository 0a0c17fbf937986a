/-
  Each call of an acceptor, and of the document's, as one contract: what it answers and what it comes to.
-/
import Derived.Test.YtnlncfjibbdimaaDoorRBal3
import Derived.Test.YtnlncfjibbdimaaDoorErrs
import Derived.Test.YtnlncfjibbdimaaDoorAlive9
namespace Go.Proofs.YtnlncfjibbdimaaDoor
open Go.RowKit
set_option linter.unusedSimpArgs false
set_option linter.unusedVariables false

def Acc.prep (s : Acc) (r n : Int) : Acc := if s.refuse r n = 0 then { s with pr := r, pn := n } else s
def Acc.toldR (s : Acc) (r n : Int) : Int := if s.refuse r n = 0 then s.ar else 0
def Acc.toldN (s : Acc) (r n : Int) : Int := if s.refuse r n = 0 then s.an else 0
def Acc.toldL (s : Acc) (r n : Int) : List Cmd := if s.refuse r n = 0 then s.led else []
def Acc.take (s : Acc) (r n : Int) (l : List Cmd) : Acc := if s.refuse r n = 0 then ⟨s.node, r, n, r, n, l, s.claimed⟩ else s
def Acc.clm (s : Acc) (r : Int) : Acc := if s.top r < 1099511627776 then { s with claimed := s.top r + 1 } else s
def Acc.clmR (s : Acc) (r : Int) : Int := if s.top r < 1099511627776 then s.top r + 1 else 0
def Acc.clmN (s : Acc) (r : Int) : Int := if s.top r < 1099511627776 then s.node else 0
def Acc.clmQ (s : Acc) (r : Int) : Nat := if s.top r < 1099511627776 then 0 else 10

/-- The error of a number. -/
def errq (A : Nat → Addr) (q : Nat) : Value := if q = 0 then .nilIface else if q = 2 then errv (A 0) else if q = 12 then errv (A 3) else errv (A 4)

theorem refuse_cases (s : Acc) (r n : Int) : (lg r n = false ∧ s.refuse r n = 2) ∨ (lg r n = true ∧ ab s.pr s.pn r n = true ∧ s.refuse r n = 12) ∨ (lg r n = true ∧ ab s.pr s.pn r n = false ∧ s.refuse r n = 0) := by
  unfold Acc.refuse
  cases lg r n <;> cases ab s.pr s.pn r n <;> simp

/-- What an acceptor's numbers keep to. -/
def Acc.Good (s : Acc) : Prop := 0 ≤ s.pr ∧ s.pr ≤ 1099511627776 ∧ 0 ≤ s.claimed ∧ s.claimed ≤ 1099511627776
theorem Acc.Good.new_ (n : Int) : (Acc.new n).Good := by unfold Acc.Good Acc.new; simp
theorem lg_rng {r n : Int} (h : lg r n = true) : 1 ≤ r ∧ r ≤ 1099511627776 ∧ 0 ≤ n ∧ n < 16 := by unfold lg at h; simpa using h
theorem Acc.Good.prep {s : Acc} (h : s.Good) (r n : Int) : (s.prep r n).Good := by
  unfold Acc.prep
  rcases refuse_cases s r n with ⟨_, h2⟩ | ⟨_, _, h2⟩ | ⟨h1, _, h2⟩ <;> rw [h2]
  · exact h
  · exact h
  · have := lg_rng h1
    obtain ⟨_, _, h3, h4⟩ := h
    exact ⟨by show 0 ≤ r; omega, by show r ≤ _; omega, h3, h4⟩
theorem Acc.Good.take {s : Acc} (h : s.Good) (r n : Int) (l : List Cmd) : (s.take r n l).Good := by
  unfold Acc.take
  rcases refuse_cases s r n with ⟨_, h2⟩ | ⟨_, _, h2⟩ | ⟨h1, _, h2⟩ <;> rw [h2]
  · exact h
  · exact h
  · have := lg_rng h1
    obtain ⟨_, _, h3, h4⟩ := h
    exact ⟨by show 0 ≤ r; omega, by show r ≤ _; omega, h3, h4⟩
theorem Acc.top_rng {s : Acc} (h : s.Good) (r : Int) : 0 ≤ s.top r ∧ s.top r ≤ 1099511627776 ∧ s.pr ≤ s.top r ∧ s.claimed ≤ s.top r := by
  unfold Acc.Good at h
  unfold Acc.top
  split <;> omega
theorem Acc.Good.clm {s : Acc} (h : s.Good) (r : Int) : (s.clm r).Good := by
  unfold Acc.clm
  have := Acc.top_rng h r
  split
  · obtain ⟨h1, h2, h3, h4⟩ := h
    exact ⟨h1, h2, by show 0 ≤ s.top r + 1; omega, by show s.top r + 1 ≤ _; omega⟩
  · exact h

/-- An acceptor (type 156) or the document's (59) at block g: its ledger lies in blocks from B on. -/
def AccIn (w : World) (B g : Nat) (t : TypeId) (s : Acc) : Prop := g < B ∧ B ≤ w.heap.size ∧ ∃ v, Blk w g t (s.cells v) ∧ LedAt w B w.heap.size v s.led

theorem AccIn.fr {w w' : World} {B B' g : Nat} {t : TypeId} {s : Acc} {S : Nat → Prop} (h : AccIn w B g t s) (f : Fr B' S w w') (hB : w.heap.size ≤ B') (hg : ¬ S g) (hS : ∀ k, B ≤ k → k < w.heap.size → ¬ S k) : AccIn w' B g t s := by
  obtain ⟨h1, h2, v, h3, h4⟩ := h
  exact ⟨h1, Nat.le_trans h2 f.size, v, h3.fr f (by omega) hg, (h4.fr f hB hS).wider (Nat.le_refl _) f.size⟩
theorem AccIn.below {w w' : World} {B B' g : Nat} {t : TypeId} {s : Acc} (h : AccIn w B g t s) (f : Below B' w w') (hB : w.heap.size ≤ B') : AccIn w' B g t s :=
  h.fr (Fr.of_below f (fun _ => False)) hB (fun h => h) (fun _ _ _ h => h)

section
variable {A : Nat → Addr} {w : World} {B g : Nat} {s : Acc} {r n : Int}

def PrepIn (A : Nat → Addr) (B g : Nat) (s : Acc) (r n : Int) (w : World) (e : Ending) (w' : World) : Prop :=
  ∃ C k c, e = .returned (.tuple #[.agg #[.int .i64 (s.toldR r n), .int .i64 (s.toldN r n)], .slice C k c, errq A (s.refuse r n)]) ∧ Fr w.heap.size (· = g) w w' ∧ AccIn w' B g 156 (s.prep r n) ∧ OwnLed w' w.heap.size w'.heap.size (.slice C k c) (s.toldL r n)

theorem prepare_in (h : AccIn w B g 156 s) (h0 : w.cell? ⟨0, 0, none⟩ = some (errv (A 0))) (h3 : w.cell? ⟨3, 0, none⟩ = some (errv (A 3))) :
    Calls Tryd.prog 31 #[.pointer (some ⟨g, 0, none⟩), .agg #[.int .i64 r, .int .i64 n]] w (PrepIn A B g s r n w) := by
  obtain ⟨hg, hB, v, hb, hl⟩ := h
  rcases refuse_cases s r n with ⟨h1, hr⟩ | ⟨h1, h2, hr⟩ | ⟨h1, h2, hr⟩
  · refine (prepare_num g r n (A 0) w h0 h1).mono ?_
    rintro e w' ⟨rfl, hw⟩
    refine ⟨none, 0, 0, ?_, Fr.of_below hw _, ?_, ?_⟩
    · simp [Acc.toldR, Acc.toldN, hr, errq]
    · simp only [Acc.prep, hr]
      exact AccIn.below ⟨hg, hB, v, hb, hl⟩ hw (Nat.le_refl _)
    · simp only [Acc.toldL, hr]
      exact OwnLed.nil_ _ _ _
  · refine (prepare_bal g s v r n (A 3) w h3 hb h1 h2).mono ?_
    rintro e w' ⟨rfl, hw⟩
    refine ⟨none, 0, 0, ?_, Fr.of_below hw _, ?_, ?_⟩
    · simp [Acc.toldR, Acc.toldN, hr, errq]
    · simp only [Acc.prep, hr]
      exact AccIn.below ⟨hg, hB, v, hb, hl⟩ hw (Nat.le_refl _)
    · simp only [Acc.toldL, hr]
      exact OwnLed.nil_ _ _ _
  · refine (prepare_ok g B _ s v r n w hb hl (Nat.le_refl _) (.inl hg) h1 h2).mono ?_
    rintro e w' ⟨v', rfl, hf, hb', ho⟩
    obtain ⟨C, c, rfl, _⟩ := ho.at_.form
    refine ⟨C, s.led.length, c, ?_, hf, ?_, ?_⟩
    · simp [Acc.toldR, Acc.toldN, hr, errq]
    · simp only [Acc.prep, hr, if_true]
      exact ⟨hg, Nat.le_trans hB hf.size, v, hb', (hl.fr hf (Nat.le_refl _) (fun k h1 h2 h3 => by omega)).wider (Nat.le_refl _) hf.size⟩
    · simp only [Acc.toldL, hr, if_true]
      exact ho

def RPrepIn (B g : Nat) (s : Acc) (r n : Int) (w : World) (e : Ending) (w' : World) : Prop :=
  ∃ C k c, e = .returned (.tuple #[.agg #[.int .i64 (s.toldR r n), .int .i64 (s.toldN r n)], .slice C k c, .int .i64 (s.refuse r n)]) ∧ Fr w.heap.size (· = g) w w' ∧ AccIn w' B g 59 (s.prep r n) ∧ LedAt w' B w'.heap.size (.slice C k c) (s.toldL r n)

theorem rprepare_in (h : AccIn w B g 59 s) :
    Calls Tryd.prog 85 #[.pointer (some ⟨g, 0, none⟩), .agg #[.int .i64 r, .int .i64 n]] w (RPrepIn B g s r n w) := by
  obtain ⟨hg, hB, v, hb, hl⟩ := h
  obtain ⟨C, c, rfl, _⟩ := hl.form
  refine (rprepare_any g s C _ c r n w hb).mono ?_
  rintro e w' ⟨p1, p2, p3⟩
  rcases refuse_cases s r n with ⟨h1, hr⟩ | ⟨h1, h2, hr⟩ | ⟨h1, h2, hr⟩
  · obtain ⟨rfl, hw⟩ := p1 h1
    refine ⟨none, 0, 0, ?_, Fr.of_below hw _, ?_, ?_⟩
    · simp [Acc.toldR, Acc.toldN, hr]
    · simp only [Acc.prep, hr]
      exact AccIn.below (w := w) ⟨hg, hB, _, hb, hl⟩ hw (Nat.le_refl _)
    · simp only [Acc.toldL, hr]
      exact (OwnLed.nil_ _ _ _).at_
  · obtain ⟨rfl, hw⟩ := p2 h1 h2
    refine ⟨none, 0, 0, ?_, Fr.of_below hw _, ?_, ?_⟩
    · simp [Acc.toldR, Acc.toldN, hr]
    · simp only [Acc.prep, hr]
      exact AccIn.below (w := w) ⟨hg, hB, _, hb, hl⟩ hw (Nat.le_refl _)
    · simp only [Acc.toldL, hr]
      exact (OwnLed.nil_ _ _ _).at_
  · obtain ⟨rfl, hf, hb'⟩ := p3 h1 h2
    have hl' := (hl.fr hf (Nat.le_refl _) (fun k h1 h2 h3 => by omega)).wider (Nat.le_refl B) hf.size
    refine ⟨C, s.led.length, c, ?_, hf, ?_, ?_⟩
    · simp [Acc.toldR, Acc.toldN, hr]
    · simp only [Acc.prep, hr, if_true]
      exact ⟨hg, Nat.le_trans hB hf.size, _, hb', hl'⟩
    · simp only [Acc.toldL, hr, if_true]
      exact hl'

def AccAny (A : Nat → Addr) (B g : Nat) (s : Acc) (r n : Int) (l : List Cmd) (w : World) (e : Ending) (w' : World) : Prop :=
  e = .returned (errq A (s.refuse r n)) ∧ Fr w.heap.size (· = g) w w' ∧ AccIn w' B g 156 (s.take r n l)

theorem accept_in {lo hi : Nat} {lv : Value} {l : List Cmd} (h : AccIn w B g 156 s) (h0 : w.cell? ⟨0, 0, none⟩ = some (errv (A 0))) (h3 : w.cell? ⟨3, 0, none⟩ = some (errv (A 3))) (hL : LedAt w lo hi lv l) (hhi : hi ≤ w.heap.size) (hlo : g < lo ∨ hi ≤ g) :
    Calls Tryd.prog 32 #[.pointer (some ⟨g, 0, none⟩), .agg #[.int .i64 r, .int .i64 n], lv] w (AccAny A B g s r n l w) := by
  obtain ⟨hg, hB, v, hb, hl⟩ := h
  rcases refuse_cases s r n with ⟨h1, hr⟩ | ⟨h1, h2, hr⟩ | ⟨h1, h2, hr⟩
  · refine (accept_num g r n lv (A 0) w h0 h1).mono ?_
    rintro e w' ⟨rfl, hw⟩
    refine ⟨by simp [hr, errq], Fr.of_below hw _, ?_⟩
    simp only [Acc.take, hr]
    exact AccIn.below ⟨hg, hB, v, hb, hl⟩ hw (Nat.le_refl _)
  · refine (accept_bal g s v r n lv (A 3) w h3 hb h1 h2).mono ?_
    rintro e w' ⟨rfl, hw⟩
    refine ⟨by simp [hr, errq], Fr.of_below hw _, ?_⟩
    simp only [Acc.take, hr]
    exact AccIn.below ⟨hg, hB, v, hb, hl⟩ hw (Nat.le_refl _)
  · refine (accept_ok g lo hi s v r n lv l w hb hL hhi hlo h1 h2).mono ?_
    rintro e w' ⟨rfl, hf, v', hb', ho⟩
    refine ⟨by simp [hr, errq], hf, ?_⟩
    simp only [Acc.take, hr, if_true]
    exact ⟨hg, Nat.le_trans hB hf.size, v', hb', ho.at_.wider hB (Nat.le_refl _)⟩

def RAccAny (B g : Nat) (s : Acc) (r n : Int) (l : List Cmd) (w : World) (e : Ending) (w' : World) : Prop :=
  e = .returned (.int .i64 (s.refuse r n)) ∧ Fr w.heap.size (· = g) w w' ∧ AccIn w' B g 59 (s.take r n l)

theorem raccept_in {lo hi : Nat} {lv : Value} {l : List Cmd} (h : AccIn w B g 59 s) (hL : LedAt w lo hi lv l) (hhi : hi ≤ w.heap.size) (hlo : g < lo ∨ hi ≤ g) :
    Calls Tryd.prog 87 #[.pointer (some ⟨g, 0, none⟩), .agg #[.int .i64 r, .int .i64 n], lv] w (RAccAny B g s r n l w) := by
  obtain ⟨hg, hB, v, hb, hl⟩ := h
  obtain ⟨C, c, rfl, _⟩ := hl.form
  refine (raccept_any g lo hi s C _ c r n lv l w hb hL hhi hlo).mono ?_
  rintro e w' ⟨p1, p2, p3⟩
  rcases refuse_cases s r n with ⟨h1, hr⟩ | ⟨h1, h2, hr⟩ | ⟨h1, h2, hr⟩
  · obtain ⟨rfl, hw⟩ := p1 h1
    refine ⟨by simp [hr], Fr.of_below hw _, ?_⟩
    simp only [Acc.take, hr]
    exact AccIn.below (w := w) ⟨hg, hB, _, hb, hl⟩ hw (Nat.le_refl _)
  · obtain ⟨rfl, hw⟩ := p2 h1 h2
    refine ⟨by simp [hr], Fr.of_below hw _, ?_⟩
    simp only [Acc.take, hr]
    exact AccIn.below (w := w) ⟨hg, hB, _, hb, hl⟩ hw (Nat.le_refl _)
  · obtain ⟨rfl, hf, v', hb', ho⟩ := p3 h1 h2
    refine ⟨by simp [hr], hf, ?_⟩
    simp only [Acc.take, hr, if_true]
    exact ⟨hg, Nat.le_trans hB hf.size, v', hb', ho.at_.wider hB (Nat.le_refl _)⟩

def ClmAny (A : Nat → Addr) (B g : Nat) (s : Acc) (r : Int) (w : World) (e : Ending) (w' : World) : Prop :=
  e = .returned (.tuple #[.agg #[.int .i64 (s.clmR r), .int .i64 (s.clmN r)], errq A (s.clmQ r)]) ∧ Fr w.heap.size (· = g) w w' ∧ AccIn w' B g 156 (s.clm r)

theorem claim_in (h : AccIn w B g 156 s) (hs : s.Good) (h4 : w.cell? ⟨4, 0, none⟩ = some (errv (A 4))) :
    Calls Tryd.prog 33 #[.pointer (some ⟨g, 0, none⟩), .agg #[.int .i64 r, .int .i64 n]] w (ClmAny A B g s r w) := by
  obtain ⟨hg, hB, v, hb, hl⟩ := h
  by_cases ht : s.top r < 1099511627776
  · refine (claim_ok g s v r n w hb hs.1 hs.2.2.1 ht).mono ?_
    rintro e w' ⟨rfl, hf, hb'⟩
    refine ⟨by simp [Acc.clmR, Acc.clmN, Acc.clmQ, ht, errq], hf, ?_⟩
    simp only [Acc.clm, if_pos ht]
    exact ⟨hg, Nat.le_trans hB hf.size, v, hb', (hl.fr hf (Nat.le_refl _) (fun k h1 h2 h3 => by omega)).wider (Nat.le_refl _) hf.size⟩
  · refine (claim_full g s v r n (A 4) w h4 hb (by omega)).mono ?_
    rintro e w' ⟨rfl, hw⟩
    refine ⟨by simp [Acc.clmR, Acc.clmN, Acc.clmQ, ht, errq], Fr.of_below hw _, ?_⟩
    simp only [Acc.clm, if_neg ht]
    exact AccIn.below ⟨hg, hB, v, hb, hl⟩ hw (Nat.le_refl _)

def RClmAny (B g : Nat) (s : Acc) (r : Int) (w : World) (e : Ending) (w' : World) : Prop :=
  e = .returned (.tuple #[.agg #[.int .i64 (s.clmR r), .int .i64 (s.clmN r)], .int .i64 (s.clmQ r)]) ∧ Fr w.heap.size (· = g) w w' ∧ AccIn w' B g 59 (s.clm r)

theorem rclaim_in (h : AccIn w B g 59 s) (hs : s.Good) :
    Calls Tryd.prog 88 #[.pointer (some ⟨g, 0, none⟩), .agg #[.int .i64 r, .int .i64 n]] w (RClmAny B g s r w) := by
  obtain ⟨hg, hB, v, hb, hl⟩ := h
  refine (rclaim_any g s v r n w hb hs.1 hs.2.1).mono ?_
  rw [rtop_top hs.2.1 hs.2.2.2]
  have hr := Acc.top_rng hs r
  rintro e w' ⟨p1, p2⟩
  by_cases ht : s.top r < 1099511627776
  · obtain ⟨rfl, hf, hb'⟩ := p2 (by omega)
    refine ⟨by simp [Acc.clmR, Acc.clmN, Acc.clmQ, ht], hf, ?_⟩
    simp only [Acc.clm, if_pos ht]
    exact ⟨hg, Nat.le_trans hB hf.size, v, hb', (hl.fr hf (Nat.le_refl _) (fun k h1 h2 h3 => by omega)).wider (Nat.le_refl _) hf.size⟩
  · obtain ⟨rfl, hw⟩ := p1 (by omega)
    refine ⟨by simp [Acc.clmR, Acc.clmN, Acc.clmQ, ht], Fr.of_below hw _, ?_⟩
    simp only [Acc.clm, if_neg ht]
    exact AccIn.below ⟨hg, hB, v, hb, hl⟩ hw (Nat.le_refl _)

def AskAny (B g : Nat) (s : Acc) (w : World) (e : Ending) (w' : World) : Prop :=
  ∃ C k c, e = .returned (.tuple #[.agg #[.int .i64 s.ar, .int .i64 s.an], .slice C k c]) ∧ Below w.heap.size w w' ∧ AccIn w' B g 156 s ∧ OwnLed w' w.heap.size w'.heap.size (.slice C k c) s.led

theorem accepted_in (h : AccIn w B g 156 s) : Calls Tryd.prog 34 #[.pointer (some ⟨g, 0, none⟩)] w (AskAny B g s w) := by
  obtain ⟨hg, hB, v, hb, hl⟩ := h
  refine (accepted_any g B _ s v w hb hl (Nat.le_refl _)).mono ?_
  rintro e w' ⟨v', rfl, hw, ho⟩
  obtain ⟨C, c, rfl, _⟩ := ho.at_.form
  exact ⟨C, _, c, rfl, hw, AccIn.below ⟨hg, hB, v, hb, hl⟩ hw (Nat.le_refl _), ho⟩

def PromAny (B g : Nat) (s : Acc) (w : World) (e : Ending) (w' : World) : Prop :=
  e = .returned (.agg #[.int .i64 s.pr, .int .i64 s.pn]) ∧ Below w.heap.size w w' ∧ AccIn w' B g 156 s

theorem promised_in (h : AccIn w B g 156 s) : Calls Tryd.prog 30 #[.pointer (some ⟨g, 0, none⟩)] w (PromAny B g s w) := by
  obtain ⟨hg, hB, v, hb, hl⟩ := h
  refine (promised_any g s v w hb).mono ?_
  rintro e w' ⟨rfl, hw⟩
  exact ⟨rfl, hw, AccIn.below ⟨hg, hB, v, hb, hl⟩ hw (Nat.le_refl _)⟩

end
end Go.Proofs.YtnlncfjibbdimaaDoor
