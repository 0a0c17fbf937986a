/-
  The walk of spoil: it writes over a ledger of the call's own.
-/
import Derived.Test.YtnlncfjibbdimaaDoorSameL
namespace Go.Proofs.YtnlncfjibbdimaaDoor
open Go.RowKit
set_option linter.unusedSimpArgs false
set_option linter.unusedVariables false

/-- The parts' slice in a row. -/
def hdrOf : Option Value → Option Addr × Nat
  | some (Value.slice A _ c) => (A, c)
  | _ => (none, 0)
def hdr (rows : List (List Value)) (i : Nat) : Option Addr × Nat := hdrOf (rows.flatten[i * 18 + 15]?)

/-- What spoil leans on, and keeps: the rows' block, the parts' slices in it, and a block of ints behind each. -/
def SpAt (w : World) (lo hi g : Nat) (H : Nat → Option Addr × Nat) (l : List Cmd) : Prop :=
  ∃ cs, Blk w g 81 cs ∧ ∀ i c, l[i]? = some c → i * 18 + 15 < cs.size ∧ cs[i * 18 + 15]? = some (.slice (H i).1 c.parts.length (H i).2) ∧ c.parts.length ≤ (H i).2 ∧ (H i).2 ≤ maxLen ∧
    (0 < c.parts.length → ∃ g' ds, (H i).1 = some ⟨g', 0, none⟩ ∧ lo ≤ g' ∧ g' < hi ∧ Blk w g' 3 ds ∧ c.parts.length ≤ ds.size)

theorem Blk.ne_type {w : World} {g h : Nat} {t u : TypeId} {a b : Array Value} (h1 : Blk w g t a) (h2 : Blk w h u b) (hne : t ≠ u) : g ≠ h := by
  rintro rfl
  unfold Blk at h1 h2
  rw [h1] at h2
  injection h2 with h2
  injection h2 with _ h2
  exact hne h2

theorem Blk.set_any {w : World} {g h j : Nat} {t u : TypeId} {a b : Array Value} {x : Value} (h1 : Blk w g t a) (hb : Blk w h u b) : ∃ a', Blk (w.setCell ⟨h, j, none⟩ x) g t a' ∧ a'.size = a.size := by
  by_cases he : g = h
  · subst he
    exact ⟨_, h1.set_ j x, by simp⟩
  · exact ⟨a, h1.far (p := ⟨h, j, none⟩) he x, rfl⟩

theorem SpAt.set_part {w : World} {lo hi g : Nat} {H : Nat → Option Addr × Nat} {l : List Cmd} (h : SpAt w lo hi g H l) {g' j : Nat} {ds : Array Value} (hb : Blk w g' 3 ds) (x : Value) : SpAt (w.setCell ⟨g', j, none⟩ x) lo hi g H l := by
  obtain ⟨cs, h1, h2⟩ := h
  refine ⟨cs, h1.far (p := ⟨g', j, none⟩) (h1.ne_type hb (by decide)) x, fun i c hc => ?_⟩
  obtain ⟨q1, q2, q3, q4, q5⟩ := h2 i c hc
  refine ⟨q1, q2, q3, q4, fun hp => ?_⟩
  obtain ⟨k, es, e1, e2, e3, e4, e5⟩ := q5 hp
  obtain ⟨es', e6, e7⟩ := e4.set_any (j := j) (x := x) hb
  exact ⟨k, es', e1, e2, e3, e6, by omega⟩

theorem SpAt.set_kind {w : World} {lo hi g : Nat} {H : Nat → Option Addr × Nat} {l : List Cmd} (h : SpAt w lo hi g H l) (k : Nat) (x : Value) : SpAt (w.setCell ⟨g, k * 18, none⟩ x) lo hi g H l := by
  obtain ⟨cs, h1, h2⟩ := h
  refine ⟨_, h1.set_ (k * 18) x, fun i c hc => ?_⟩
  obtain ⟨q1, q2, q3, q4, q5⟩ := h2 i c hc
  refine ⟨by simpa using q1, ?_, q3, q4, fun hp => ?_⟩
  · rw [Array.getElem?_setIfInBounds_ne (by omega)]; exact q2
  · obtain ⟨k', es, e1, e2, e3, e4, e5⟩ := q5 hp
    exact ⟨k', es, e1, e2, e3, e4.far (p := ⟨g, k * 18, none⟩) (e4.ne_type h1 (by decide)) x, e5⟩

theorem OwnLed.sp {w : World} {lo hi : Nat} {v : Value} {l : List Cmd} (h : OwnLed w lo hi v l) (h0 : 0 < l.length) : ∃ g c H, v = .slice (some ⟨g, 0, none⟩) l.length c ∧ lo ≤ g ∧ g < hi ∧ SpAt w lo hi g H l := by
  obtain ⟨rows, h1, h2, h3⟩ := h
  have hrows := h1.1.1
  rcases h1.1.2 with ⟨_, hn⟩ | ⟨g, cap, cur, rfl, hb, hh, q1, q2, q3⟩
  · omega
  · refine ⟨g, cap, hdr rows, rfl, hb, h1.2 g rfl, cur, hh, fun i c hc => ?_⟩
    have hlen := h3.1
    obtain ⟨hi', he⟩ := List.getElem?_eq_some_iff.1 hc
    have hri : rows[i]? = some rows[i] := List.getElem?_eq_getElem (by omega)
    obtain ⟨pv, e1, e2⟩ := h3.2 i _ c hri hc
    have h18 : ∀ r ∈ rows, r.length = 18 := by
      intro r hr
      obtain ⟨j, hj, rfl⟩ := List.getElem_of_mem hr
      obtain ⟨pv, e, _⟩ := h3.2 j rows[j] (l[j]'(by omega)) (List.getElem?_eq_getElem hj) (List.getElem?_eq_getElem (by omega))
      rw [e]; rfl
    have hf := flatten_get rows h18 i 15 _ hri (by omega)
    rw [e1] at hf
    have hf' : rows.flatten[i * 18 + 15]? = some pv := hf
    have hcur : cur[i * 18 + 15]? = some pv := by
      have := hf'
      rw [← q3.2, List.getElem?_take] at this
      split at this
      · simpa using this
      · cases this
    obtain ⟨A, cc, rfl, r1, r2, _⟩ := e2.1.form
    have hH : hdr rows i = (A, cc) := by simp only [hdr, hf', hdrOf]
    rw [hH]
    refine ⟨(Array.getElem?_eq_some_iff.1 hcur).1, hcur, r1, r2, fun hp => ?_⟩
    rcases e2.1.1.2 with ⟨_, hn⟩ | ⟨g', cap', ds, hv, s1, s2, s3, s4, s5, _⟩
    · omega
    · have hA : A = some ⟨g', 0, none⟩ := by injection hv
      subst hA
      exact ⟨g', ds, rfl, s1, e2.1.2 g' rfl, s2, by omega⟩

def SpoilPost (lo hi : Nat) (w : World) (e : Ending) (w' : World) : Prop := e = .returned (.tuple #[]) ∧ Fr w.heap.size (fun k => lo ≤ k ∧ k < hi) w w'

set_option maxHeartbeats 400000 in
theorem spoil_nil (lo hi : Nat) (w : World) (A : Option Addr) (c : Nat) : Calls Tryd.prog 86 #[.slice A 0 c] w (SpoilPost lo hi w) := by
  go_enter Tryd.func86, Tryd.ntmps86
  go_wp2
  go_loop [6] (fun i => i = .int .i64 0) (fun i => 0)
  case atStart => rfl
  case round =>
    subst hrel
    go_wp2
    go_end0
    exact ⟨rfl, Fr.refl _ _ _⟩

set_option maxHeartbeats 800000 in
theorem spoil_any (w : World) (lo hi : Nat) (v : Value) (l : List Cmd) (h : OwnLed w lo hi v l) : Calls Tryd.prog 86 #[v] w (SpoilPost lo hi w) := by
  rcases Nat.eq_zero_or_pos l.length with h0 | h0
  · obtain ⟨A, c, rfl, _⟩ := h.at_.form
    rw [h0]
    exact spoil_nil lo hi w A c
  · obtain ⟨g, c, H, rfl, hlo, hhi, hsp⟩ := h.sp h0
    obtain ⟨_, _, hv, _, hc1, hc2⟩ := h.at_.form
    obtain ⟨n, hn⟩ : ∃ n, n = l.length := ⟨_, rfl⟩
    rw [← hn] at hv h0 hc2 ⊢
    have hn63 : n ≤ 9223372036854775807 := by omega
    have HN := Lib.hid hn
    clear hn hv h
    go_enter Tryd.func86, Tryd.ntmps86
    go_wp2
    go_loopw [6] (fun i wr => ∃ k : Nat, k ≤ n ∧ i = .int .i64 k ∧ SpAt wr lo hi g H l ∧ Fr w.heap.size (fun k => lo ≤ k ∧ k < hi) w wr) (fun i _ => n - (intOf i).toNat)
    case atStart => exact ⟨0, Nat.zero_le _, rfl, hsp, Fr.refl _ _ _⟩
    case round =>
      obtain ⟨k, hk, rfl, hs, hF⟩ := hrel
      by_cases hlt : k < n
      · have hk1 : k < l.length := by rw [← HN.out]; exact hlt
        obtain ⟨cs, hB, hq⟩ := hs
        obtain ⟨q1, q2, q3, q4, q5⟩ := hq k _ (List.getElem?_eq_getElem hk1)
        have HS : SpAt wr lo hi g H l := ⟨cs, hB, hq⟩
        clear hq
        obtain ⟨m, hm⟩ : ∃ m, m = l[k].parts.length := ⟨_, rfl⟩
        rw [← hm] at q2 q3 q5
        obtain ⟨A, hA⟩ : ∃ A, A = (H k).1 := ⟨_, rfl⟩
        obtain ⟨cc, hcc⟩ : ∃ cc, cc = (H k).2 := ⟨_, rfl⟩
        rw [← hA] at q2 q5
        rw [← hcc] at q2 q3 q4
        have c15 : wr.cell? ⟨g, k * 18 + 15, none⟩ = some (.slice A m cc) := (hB.cell _).trans q2
        have hm63 : m ≤ 9223372036854775807 := by simp only [maxLen] at q4; omega
        have HM := Lib.hid hm
        have HA := Lib.hid hA
        clear hm hA hcc q2 q5 q3 q4 hB
        obtain ⟨wo, hwo⟩ : ∃ wo : World, wo = wr := ⟨_, rfl⟩
        rw [← hwo] at HS hF c15 ⊢
        clear hwo
        go_wp2
        go_loopw [15] (fun i wi => ∃ j : Nat, j ≤ m ∧ i = .int .i64 j ∧ wi.cell? ⟨g, k * 18 + 15, none⟩ = some (.slice A m cc) ∧ SpAt wi lo hi g H l ∧ Fr w.heap.size (fun k => lo ≤ k ∧ k < hi) w wi) (fun i _ => m - (intOf i).toNat)
        case atStart => exact ⟨0, Nat.zero_le _, rfl, c15, HS, hF⟩
        case round =>
          obtain ⟨j, hj, rfl, c15', hs', hF'⟩ := hrel
          by_cases hjm : j < m
          · obtain ⟨cs', hB', hq'⟩ := hs'
            obtain ⟨p1, p2, p3, p4, p5⟩ := hq' k _ (List.getElem?_eq_getElem hk1)
            have HS' : SpAt wr lo hi g H l := ⟨cs', hB', hq'⟩
            clear hq' p1 p2 p3 p4
            obtain ⟨g', ds, e1, e2, e3, e4, e5⟩ := p5 (by rw [← HM.out]; omega)
            rw [← HA.out] at e1
            subst e1
            have hg' := e4.lt
            have hne : ¬ g = g' := hB'.ne_type e4 (by decide)
            have hds : j < ds.size := by rw [← HM.out] at e5; omega
            have cj : wr.cell? ⟨g', j, none⟩ = some ds[j] := (e4.cell j).trans (Array.getElem?_eq_getElem hds)
            have fj := e4.frozen j
            clear hB' p5 e5 c15
            have e4t := HS'.set_part (j := j) e4 (.int .i64 (-9))
            have hFt := hF'.setCell (p := ⟨g', j, none⟩) (.inl ⟨e2, e3⟩) (.int .i64 (-9))
            have ct : (wr.setCell ⟨g', j, none⟩ (.int .i64 (-9))).cell? ⟨g, k * 18 + 15, none⟩ = some (.slice (some ⟨g', 0, none⟩) m cc) := (((Fr.refl wr.heap.size (· = g') wr).setCell (p := ⟨g', j, none⟩) (.inl rfl) (.int .i64 (-9))).cell (p := ⟨g, k * 18 + 15, none⟩) (World.block_lt_of_cell? wr _ c15') hne).trans c15'
            have CT := Lib.hid ct
            clear ct
            go_wp2
            go_roundw
            case rel => exact ⟨j + 1, by omega, by go_num, CT.out, e4t, hFt⟩
            case measure => simp [intOf]; omega
          · have hjm' : j = m := by omega
            subst hjm'
            obtain ⟨cs', hB', hq'⟩ := hs'
            obtain ⟨p1, _⟩ := hq' k _ (List.getElem?_eq_getElem hk1)
            have HS' : SpAt wr lo hi g H l := ⟨cs', hB', hq'⟩
            have c0 : wr.cell? ⟨g, k * 18, none⟩ = some cs'[k * 18] := (hB'.cell _).trans (Array.getElem?_eq_getElem (by omega))
            have f0 := hB'.frozen (k * 18)
            clear hq' hB'
            go_wp2
            go_roundw
            case rel => exact ⟨k + 1, by omega, by go_num, HS'.set_kind k _, hF'.setCell (p := ⟨g, k * 18, none⟩) (.inl ⟨hlo, hhi⟩) _⟩
            case measure => simp [intOf]; omega
      · have hkn : k = n := by omega
        subst hkn
        go_wp2
        go_end0
        exact ⟨rfl, hF⟩

end Go.Proofs.YtnlncfjibbdimaaDoor
