/-
  What is common to all laws of this seat: from the row's reading of the arguments and the listed sentinels to a walk, and back.
-/
import Derived.Test.YtnlncfjibbdimaaDoorTie
import Derived.Test.YtnlncfjibbdimaaDoorErrs
import Derived.ProofKit
import Derived.LaidLaws
import Derived.LaidMore
import Derived.LaidHandle
import Derived.OpenShut
import Derived.Carry
import Derived.Stop.Joined
namespace Go.Proofs.YtnlncfjibbdimaaDoor
open Go.ChangeShapes Go.WideShapes Go.ChangeAt Go.RowKit
set_option linter.unusedSimpArgs false
set_option linter.unusedVariables false

theorem own : ownKnob Tryd.prog.godebug = none := by kernel_rfl
theorem laidOut : laidOutB Tryd.prog = true := by kernel_rfl

/-! ### The sentinels -/

/-- A listed sentinel: the variable's name, its number, its text. -/
def sentD (x : String × Nat × List UInt8) : String × DataW Unit := (x.1, .iface "*errors.errorString" (.ptr (.agg [.lit (.string x.2.2)])))
def SentOk (x : String × Nat × List UInt8) : Prop := Tryd.prog.globalNamed x.1 = some x.2.1 ∧ (Tryd.prog.globals[x.2.1]?).map (·.type) = some 34

theorem cells266 : Tryd.prog.cellsOf 266 = 1 := by kernel_rfl
theorem cells9 : Tryd.prog.cellsOf 9 = 1 := by kernel_rfl
theorem star : "*" ++ "errors.errorString" = "*errors.errorString" := by decide
theorem row251 (u : TypeId) (h : Tryd.prog.typeName? 3 u = some "*errors.errorString") : u = 251 :=
  typeName_ptr_named (nm := "errors.errorString") (by rw [star]; kernel_rfl) (by kernel_rfl) (by decide) u (by rw [star]; exact h)

theorem mem_row_zero (a : Addr) : MemPlace.cell a.block a.off ∈ MemPlace.row a 1 := by simp [MemPlace.row]

set_option maxRecDepth 100000 in
theorem sent_cell {W : World} {f : Nat} {cs : List Value} {text : List UInt8} {p : List MemPlace} (hd : DataW.trod (fun _ => ()) Tryd.prog W 0 (fun _ => true) false f 34 cs = some (.iface "*errors.errorString" (.ptr (.agg [.lit (.string text)])), p))
    (hok : ∀ u v, cs = [.iface u v] → Value.okWide Tryd.prog W .any 0 u v) : ∃ a s, cs = [.iface 251 (.pointer (some a))] ∧ W.cell? a = some (.string s) ∧ s.data.toList = text ∧ s.size ≤ maxLen ∧ p = MemPlace.row a 1 :=
  errorString_of_trod (P := Tryd.prog) (W := W) (enc := fun _ => ()) (base := 0) (sp := fun _ => true) (fuel := f) (ti := 34) (tp := 251) (te := 266) (ts := 9) (nm := "*errors.errorString") (cs := cs) (text := text) (p := p) Tryd.underlying34 row251 Tryd.underlying251 Tryd.underlying266 rfl rfl Tryd.underlying9 cells266 cells9 hd hok

set_option maxRecDepth 100000 in
theorem errs_of_vars {W : World} : ∀ (L : List (String × Nat × List UInt8)) (ps : List MemPlace), DataW.LaidVars Tryd.prog W (L.map sentD) ps → (∀ x ∈ L, SentOk x) → ps.Nodup →
    (∀ b off, MemPlace.cell b off ∈ ps → (∃ c t, W.heap[b]? = some (.cells c t (0, 0))) ∧ ∀ u v, W.cell? ⟨b, off, none⟩ = some (.iface u v) → Value.okWide Tryd.prog W .any 0 u v) →
    ∃ A : Nat → Addr, (∀ x ∈ L, W.cell? ⟨x.2.1, 0, none⟩ = some (errv (A x.2.1)) ∧ MemPlace.cell x.2.1 0 ∈ ps ∧ MemPlace.cell (A x.2.1).block (A x.2.1).off ∈ ps ∧ (A x.2.1).spot = none) ∧
      (∀ x ∈ L, ∀ y ∈ L, A x.2.1 = A y.2.1 → x.2.1 = y.2.1)
  | [], _, _, _, _, _ => ⟨fun _ => ⟨0, 0, none⟩, by simp, by simp⟩
  | (n, g, text) :: L, ps, h, hok, hnd, hr => by
    have h' : ∃ g' t cs fuel p q, Tryd.prog.globalNamed n = some g' ∧ (Tryd.prog.globals[g']?).map (·.type) = some t ∧ W.var? Tryd.prog n = some cs ∧
      DataW.trod (fun _ => ()) Tryd.prog W 0 (fun _ => true) false fuel t cs.toList = some (.iface "*errors.errorString" (.ptr (.agg [.lit (.string text)])), p) ∧
      DataW.LaidVars Tryd.prog W (L.map sentD) q ∧ ps = MemPlace.row ⟨g', 0, none⟩ cs.size ++ p ++ q := h
    clear h
    obtain ⟨g', t, cs, f, p, q, hg, ht, hv, hd, hrest, rfl⟩ := h'
    obtain ⟨hg0, ht0⟩ := hok (n, g, text) (by simp)
    have hokr : ∀ x ∈ L, SentOk x := fun x hx => hok x (by simp [hx])
    obtain rfl := Option.some.inj (hg0.symm.trans hg)
    obtain rfl := Option.some.inj (ht0.symm.trans ht)
    obtain ⟨a, s, hl, hc, hs, _, rfl⟩ := sent_cell hd (fun u v e => by
      have hz : cs.size = 1 := by rw [← Array.length_toList, e]; rfl
      have hc0 : cs[0]? = some (.iface u v) := by rw [← Array.getElem?_toList, e]; rfl
      refine (hr g 0 (List.mem_append_left _ (List.mem_append_left _ ?_))).2 u v ((World.var?_cell hg hv 0).trans hc0)
      rw [hz]; exact mem_row_zero ⟨g, 0, none⟩)
    have hcs : cs = #[errv a] := by rw [← Array.toArray_toList (xs := cs), hl]
    subst hcs
    have hcell : W.cell? ⟨g, 0, none⟩ = some (errv a) := World.var?_cell hg hv 0
    have hsp : a.spot = none := World.cell?_spot hc
    have hnq : q.Nodup := by
      rw [List.nodup_append] at hnd
      exact hnd.2.1
    obtain ⟨A, h1, h2⟩ := errs_of_vars L q hrest hokr hnq (fun b off hb => hr b off (by simp [hb]))
    have hgq : MemPlace.cell g 0 ∉ q := fun hm => by
      rw [List.nodup_append] at hnd
      exact hnd.2.2 _ (by simp [MemPlace.row]) _ hm rfl
    have haq : MemPlace.cell a.block a.off ∉ q := fun hm => by
      rw [List.nodup_append] at hnd
      exact hnd.2.2 _ (by simp [MemPlace.row]) _ hm rfl
    have hne : ∀ x ∈ L, x.2.1 ≠ g := fun x hx e => hgq (by rw [← e]; exact (h1 x hx).2.1)
    refine ⟨fun k => if k = g then a else A k, ?_, ?_⟩
    · intro x hx
      rcases List.mem_cons.1 hx with rfl | hx
      · simp only [if_true]
        exact ⟨hcell, by simp [MemPlace.row], by simp [MemPlace.row], hsp⟩
      · simp only [if_neg (hne x hx)]
        obtain ⟨k1, k2, k3, k4⟩ := h1 x hx
        exact ⟨k1, by simp [k2], by simp [k3], k4⟩
    · intro x hx y hy e
      rcases List.mem_cons.1 hx with rfl | hx <;> rcases List.mem_cons.1 hy with rfl | hy
      · rfl
      · simp only [if_true, if_neg (hne y hy)] at e
        exact absurd (h1 y hy).2.2.1 (by rw [← e]; exact haq)
      · simp only [if_true, if_neg (hne x hx)] at e
        exact absurd (h1 x hx).2.2.1 (by rw [e]; exact haq)
      · simp only [if_neg (hne x hx), if_neg (hne y hy)] at e
        exact h2 x hx y hy e

theorem errs_of_laid {W : World} {laid : List (String × DataW Unit)} (L : List (String × Nat × List UInt8)) (hl : laid = L.map sentD) (hok : (∀ x ∈ L, SentOk x)) (hp : (laid.all fun x => x.2.handleName?.isNone) = true)
    (h : laidMetH Tryd.prog laid W) : ∃ A, Errs W W.heap.size A (L.map (·.2.1)) := by
  have hf : laid.filter (fun x => x.2.handleName?.isSome) = [] := by
    rw [List.filter_eq_nil_iff]
    intro x hx
    have := List.all_eq_true.1 hp x hx
    simpa using this
  unfold laidMetH at h
  rw [hf] at h
  subst hl
  obtain ⟨ps, h1, h2, h3⟩ := h
  obtain ⟨A, k1, k2⟩ := errs_of_vars L ps h1 hok h2 h3
  refine ⟨A, ?_, ?_, ?_, ?_⟩
  · intro g hg
    obtain ⟨x, hx, rfl⟩ := List.mem_map.1 hg
    obtain ⟨m1, m2, m3, _⟩ := k1 x hx
    obtain ⟨c, t, hb⟩ := (h3 _ _ m3).1
    exact ⟨World.block_lt_of_cell? W _ m1, (Array.getElem?_eq_some_iff.1 hb).1⟩
  · intro g hg
    obtain ⟨x, hx, rfl⟩ := List.mem_map.1 hg
    exact (k1 x hx).1
  · intro g hg
    obtain ⟨x, hx, rfl⟩ := List.mem_map.1 hg
    exact (h3 _ _ (k1 x hx).2.2.1).1
  · intro g hg g' hg' e
    obtain ⟨x, hx, rfl⟩ := List.mem_map.1 hg
    obtain ⟨y, hy, rfl⟩ := List.mem_map.1 hg'
    exact k2 x hx y hy e

end Go.Proofs.YtnlncfjibbdimaaDoor
