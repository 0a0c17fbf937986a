/-
  What is common to all laws of this seat: from the row's reading of the arguments and the listed sentinels to a walk, and back.
  From a law's walk to the row's own statement: one theorem for all laws of this seat.
  How the data of this seat's laws lie in memory: off the row's reading of an argument.
  How ledgers and scripts lie in memory: off the row's reading of an argument.
  The forms of a law's arguments, off the row's own condition.
-/
import Derived.Test.YtnlncfjibbdimaaDoorTie
import Derived.Test.YtnlncfjibbdimaaDoorZB
import Derived.ProofKit
import Derived.LaidLaws
import Derived.LaidMore
import Derived.LaidHandle
import Derived.OpenShut
import Derived.Carry
import Derived.Stop.Joined
import Derived.SevenTiedAt
import Derived.Deep.Slices
import Derived.SizedLaws
namespace Go.Proofs.YtnlncfjibbdimaaDoor
open Go.ChangeShapes Go.WideShapes Go.ChangeAt Go.RowKit
set_option linter.unusedSimpArgs false
set_option linter.unusedVariables false
theorem own : ownKnob Tryd.prog.godebug = none := by kernel_rfl
theorem laidOut : laidOutB Tryd.prog = true := by kernel_rfl
/-! ### The sentinels -/

/-- A listed sentinel: the variable's name, its number, its text. -/
def sentD (x : String × Nat × List UInt8) : String × DataW Unit := (x.1, .iface "*errors.errorString" (.ptr (.agg [.lit (.string x.2.2)])))
def SentOk (x : String × Nat × List UInt8) : Prop := Tryd.prog.globalNamed x.1 = some x.2.1 ∧ (Tryd.prog.globals[x.2.1]?).map (·.type) = some 34
theorem cells266 : Tryd.prog.cellsOf 266 = 1 := by kernel_rfl
theorem cells9 : Tryd.prog.cellsOf 9 = 1 := by kernel_rfl
theorem star : "*" ++ "errors.errorString" = "*errors.errorString" := by decide
theorem row251 (u : TypeId) (h : Tryd.prog.typeName? 3 u = some "*errors.errorString") : u = 251 :=
  typeName_ptr_named (nm := "errors.errorString") (by rw [star]; kernel_rfl) (by kernel_rfl) (by decide) u (by rw [star]; exact h)
theorem mem_row_zero (a : Addr) : MemPlace.cell a.block a.off ∈ MemPlace.row a 1 := by simp [MemPlace.row]
set_option maxRecDepth 100000 in
theorem sent_cell {W : World} {f : Nat} {cs : List Value} {text : List UInt8} {p : List MemPlace} (hd : DataW.trod (fun _ => ()) Tryd.prog W 0 (fun _ => true) false f 34 cs = some (.iface "*errors.errorString" (.ptr (.agg [.lit (.string text)])), p))
    (hok : ∀ u v, cs = [.iface u v] → Value.okWide Tryd.prog W .any 0 u v) : ∃ a s, cs = [.iface 251 (.pointer (some a))] ∧ W.cell? a = some (.string s) ∧ s.data.toList = text ∧ s.size ≤ maxLen ∧ p = MemPlace.row a 1 :=
  errorString_of_trod (P := Tryd.prog) (W := W) (enc := fun _ => ()) (base := 0) (sp := fun _ => true) (fuel := f) (ti := 34) (tp := 251) (te := 266) (ts := 9) (nm := "*errors.errorString") (cs := cs) (text := text) (p := p) Tryd.underlying34 row251 Tryd.underlying251 Tryd.underlying266 rfl rfl Tryd.underlying9 cells266 cells9 hd hok
set_option maxRecDepth 100000 in
theorem errs_of_vars {W : World} : ∀ (L : List (String × Nat × List UInt8)) (ps : List MemPlace), DataW.LaidVars Tryd.prog W (L.map sentD) ps → (∀ x ∈ L, SentOk x) → ps.Nodup →
    (∀ b off, MemPlace.cell b off ∈ ps → (∃ c t, W.heap[b]? = some (.cells c t (0, 0))) ∧ ∀ u v, W.cell? ⟨b, off, none⟩ = some (.iface u v) → Value.okWide Tryd.prog W .any 0 u v) →
    ∃ A : Nat → Addr, (∀ x ∈ L, W.cell? ⟨x.2.1, 0, none⟩ = some (errv (A x.2.1)) ∧ MemPlace.cell x.2.1 0 ∈ ps ∧ MemPlace.cell (A x.2.1).block (A x.2.1).off ∈ ps ∧ (A x.2.1).spot = none) ∧
      (∀ x ∈ L, ∀ y ∈ L, A x.2.1 = A y.2.1 → x.2.1 = y.2.1)
  | [], _, _, _, _, _ => ⟨fun _ => ⟨0, 0, none⟩, by simp, by simp⟩
  | (n, g, text) :: L, ps, h, hok, hnd, hr => by
    have h' : ∃ g' t cs fuel p q, Tryd.prog.globalNamed n = some g' ∧ (Tryd.prog.globals[g']?).map (·.type) = some t ∧ W.var? Tryd.prog n = some cs ∧
      DataW.trod (fun _ => ()) Tryd.prog W 0 (fun _ => true) false fuel t cs.toList = some (.iface "*errors.errorString" (.ptr (.agg [.lit (.string text)])), p) ∧
      DataW.LaidVars Tryd.prog W (L.map sentD) q ∧ ps = MemPlace.row ⟨g', 0, none⟩ cs.size ++ p ++ q := h
    clear h
    obtain ⟨g', t, cs, f, p, q, hg, ht, hv, hd, hrest, rfl⟩ := h'
    obtain ⟨hg0, ht0⟩ := hok (n, g, text) (by simp)
    have hokr : ∀ x ∈ L, SentOk x := fun x hx => hok x (by simp [hx])
    obtain rfl := Option.some.inj (hg0.symm.trans hg)
    obtain rfl := Option.some.inj (ht0.symm.trans ht)
    obtain ⟨a, s, hl, hc, hs, _, rfl⟩ := sent_cell hd (fun u v e => by
      have hz : cs.size = 1 := by rw [← Array.length_toList, e]; rfl
      have hc0 : cs[0]? = some (.iface u v) := by rw [← Array.getElem?_toList, e]; rfl
      refine (hr g 0 (List.mem_append_left _ (List.mem_append_left _ ?_))).2 u v ((World.var?_cell hg hv 0).trans hc0)
      rw [hz]; exact mem_row_zero ⟨g, 0, none⟩)
    have hcs : cs = #[errv a] := by rw [← Array.toArray_toList (xs := cs), hl]
    subst hcs
    have hcell : W.cell? ⟨g, 0, none⟩ = some (errv a) := World.var?_cell hg hv 0
    have hsp : a.spot = none := World.cell?_spot hc
    have hnq : q.Nodup := by
      rw [List.nodup_append] at hnd
      exact hnd.2.1
    obtain ⟨A, h1, h2⟩ := errs_of_vars L q hrest hokr hnq (fun b off hb => hr b off (by simp [hb]))
    have hgq : MemPlace.cell g 0 ∉ q := fun hm => by
      rw [List.nodup_append] at hnd
      exact hnd.2.2 _ (by simp [MemPlace.row]) _ hm rfl
    have haq : MemPlace.cell a.block a.off ∉ q := fun hm => by
      rw [List.nodup_append] at hnd
      exact hnd.2.2 _ (by simp [MemPlace.row]) _ hm rfl
    have hne : ∀ x ∈ L, x.2.1 ≠ g := fun x hx e => hgq (by rw [← e]; exact (h1 x hx).2.1)
    refine ⟨fun k => if k = g then a else A k, ?_, ?_⟩
    · intro x hx
      rcases List.mem_cons.1 hx with rfl | hx
      · simp only [if_true]
        exact ⟨hcell, by simp [MemPlace.row], by simp [MemPlace.row], hsp⟩
      · simp only [if_neg (hne x hx)]
        obtain ⟨k1, k2, k3, k4⟩ := h1 x hx
        exact ⟨k1, by simp [k2], by simp [k3], k4⟩
    · intro x hx y hy e
      rcases List.mem_cons.1 hx with rfl | hx <;> rcases List.mem_cons.1 hy with rfl | hy
      · rfl
      · simp only [if_true, if_neg (hne y hy)] at e
        exact absurd (h1 y hy).2.2.1 (by rw [← e]; exact haq)
      · simp only [if_true, if_neg (hne x hx)] at e
        exact absurd (h1 x hx).2.2.1 (by rw [e]; exact haq)
      · simp only [if_neg (hne x hx), if_neg (hne y hy)] at e
        exact h2 x hx y hy e
theorem errs_of_laid {W : World} {laid : List (String × DataW Unit)} (L : List (String × Nat × List UInt8)) (hl : laid = L.map sentD) (hok : (∀ x ∈ L, SentOk x)) (hp : (laid.all fun x => x.2.handleName?.isNone) = true)
    (h : laidMetH Tryd.prog laid W) : ∃ A, Errs W W.heap.size A (L.map (·.2.1)) := by
  have hf : laid.filter (fun x => x.2.handleName?.isSome) = [] := by
    rw [List.filter_eq_nil_iff]
    intro x hx
    have := List.all_eq_true.1 hp x hx
    simpa using this
  unfold laidMetH at h
  rw [hf] at h
  subst hl
  obtain ⟨ps, h1, h2, h3⟩ := h
  obtain ⟨A, k1, k2⟩ := errs_of_vars L ps h1 hok h2 h3
  refine ⟨A, ?_, ?_, ?_, ?_⟩
  · intro g hg
    obtain ⟨x, hx, rfl⟩ := List.mem_map.1 hg
    obtain ⟨m1, m2, m3, _⟩ := k1 x hx
    obtain ⟨c, t, hb⟩ := (h3 _ _ m3).1
    exact ⟨World.block_lt_of_cell? W _ m1, (Array.getElem?_eq_some_iff.1 hb).1⟩
  · intro g hg
    obtain ⟨x, hx, rfl⟩ := List.mem_map.1 hg
    exact (k1 x hx).1
  · intro g hg
    obtain ⟨x, hx, rfl⟩ := List.mem_map.1 hg
    exact (h3 _ _ (k1 x hx).2.2.1).1
  · intro g hg g' hg' e
    obtain ⟨x, hx, rfl⟩ := List.mem_map.1 hg
    obtain ⟨y, hy, rfl⟩ := List.mem_map.1 hg'
    exact k2 x hx y hy e
end Go.Proofs.YtnlncfjibbdimaaDoor

namespace Go.Proofs.YtnlncfjibbdimaaDoor
open Go.ChangeShapes Go.WideShapes Go.ChangeAt Go.RowKit
set_option linter.unusedSimpArgs false
set_option linter.unusedVariables false
/-- All arguments read as they did, where nothing below the heap's old size has turned. -/
theorem below_trodAll {H : Type} {enc : TypeId × Value → H} {W W' : World} (hb : Below W.heap.size W W') : ∀ (ts : List TypeId) (vs : List Value) (ds : List (DataW H)) (ps : List MemPlace),
    (∀ t ∈ ts, Tryd.prog.readableRec t = true ∧ t < Tryd.prog.types.size) → DataW.TrodAll enc Tryd.prog W 0 (fun _ => true) true ts vs ds ps → (∀ x ∈ ps, x.block < W.heap.size) →
    DataW.TrodAll enc Tryd.prog W' 0 (fun b => decide (b < W.heap.size)) true ts vs ds ps
  | [], [], [], ps, _, h, _ => h
  | t :: ts, v :: vs, d :: ds, ps, ht, h, hlt => by
    obtain ⟨p, q, h1, h2, rfl⟩ := h
    exact ⟨p, q, Below.trod laidOut (ht t (by simp)).1 (ht t (by simp)).2 h1 hb (fun x hx => hlt x (by simp [hx])),
      below_trodAll hb ts vs ds q (fun t' h' => ht t' (by simp [h'])) h2 (fun x hx => hlt x (by simp [hx])), rfl⟩
  | [], [], _ :: _, _, _, h, _ => h.elim
  | [], _ :: _, _, _, _, h, _ => h.elim
  | _ :: _, [], _, _, _, h, _ => h.elim
  | _ :: _, _ :: _, [], _, _, h, _ => h.elim
/-- What a law's walk is told, and what it is to show. -/
def LawWalk (F : FuncId) (fn : Func) (G : List Nat) : Prop :=
  ∀ (H : Type) (enc : TypeId × Value → H) (W : World) (base : Nat) (args : Array Value) (ds : List (DataW H)) (p : List MemPlace) (A : Nat → Addr),
    DataW.TrodAll enc Tryd.prog W 0 (fun _ => true) true fn.params.toList args.toList ds p →
    (∀ (j : Nat) t v, fn.params[j]? = some t → args[j]? = some v → Value.okWide Tryd.prog W .any base t v) →
    (DataW.weightsEach Tryd.prog fn.params.toList ds).all (· ≤ reachBytes) = true →
    (∀ x ∈ p, x.block < W.heap.size) → Errs W W.heap.size A G →
    Calls Tryd.prog F args W fun e W' => e = .returned (.bool true) ∧ Below W.heap.size W W'
set_option maxRecDepth 100000 in
theorem law_lifted (F : FuncId) (fn : Func) (hF : Tryd.prog.funcs[F]? = some fn) (hres : fn.resultTypes = #[4])
    (hread : ∀ t ∈ fn.params.toList, Tryd.prog.readableRec t = true ∧ t < Tryd.prog.types.size) (noInit : Tryd.prog.inits.idxOf? F = none)
    (s : ChangeSpec) (hv : s.vars = []) (hfn : ∀ (H : Type) (ts : List TypeId) (vs : List Value) (enc : TypeId × Value → H) (W : World) (ds : List (DataW H)) (p : List MemPlace), DataW.TrodAll enc Tryd.prog W 0 (fun _ => true) true fn.params.toList vs ds p → s.fn H ds = { results := [.lit (.bool true)], args := ds })
    (laid : List (String × DataW Unit)) (L : List (String × Nat × List UInt8)) (hl : laid = L.map sentD) (hok : ∀ x ∈ L, SentOk x) (hp : (laid.all fun x => x.2.handleName?.isNone) = true)
    (walk : LawWalk F fn (L.map (·.2.1))) (os : Os) (started : os.Started) (H : Type) (enc : TypeId × Value → H)
    (witness : ∃ (w : World) (tape : Tape) (i : Input), w.os = os ∧ (w.forCall tape i).Shaped Tryd.checked.prog ∧ i.vars = [] ∧ Input.okWide Tryd.checked.prog (w.forCall tape i) .any w.heap.size F i ∧
      ((s.pre enc Tryd.checked.prog fn [] false (w.forCall tape i).memory i.args ∧ laidMetH Tryd.prog laid (w.forCall tape i).memory) ∧ sizedMet enc Tryd.checked.prog fn (OpenSpec.ofChange s) false (w.forCall tape i).memory i.args) ∧ ({} : Assume).holds Tryd.checked.prog (lone (Frame.enter Tryd.checked.prog F i.args .normal) [] (w.forCall tape i))) :
    ReturnsInHanded {} Tryd.checked os F .any (fun w args => (s.pre enc Tryd.prog fn [] false w args ∧ laidMetH Tryd.prog laid w) ∧ sizedMet enc Tryd.prog fn (OpenSpec.ofChange s) false w args)
      (s.post enc Tryd.prog fn false true false false) := by
  refine returnsInHanded_of_change_and (C := Tryd.checked) (X := fun w _ => laidMetH Tryd.prog laid w) (fun _ _ _ hh h => h.of_heap hh) own started noInit hF witness ?_
  intro W base args ds gs before hval0 hW _ hsz hL _
  obtain ⟨A, hE⟩ := errs_of_laid L hl hok hp hL
  have hW' := hW
  have hlt := fun x hx => hW.lt x hx
  obtain ⟨p, q, hA, hV, rfl, hfz, hnd⟩ := hW
  have hV0 := hV
  rw [hv] at hV0
  obtain ⟨rfl, rfl⟩ := trodVars_none hV0
  have hvt : s.plain.varTypes Tryd.prog = [] := by
    unfold DataSpec.varTypes
    rw [show s.plain.vars = [] from hv]
    rfl
  have hsz' : (DataW.weightsEach Tryd.prog fn.params.toList ds).all (· ≤ reachBytes) = true := by
    have h := hsz
    rw [show s.plain.varTypes Tryd.checked.prog = [] from hvt, List.append_nil, List.append_nil] at h
    exact h
  have hlt' : ∀ x ∈ p, x.block < W.heap.size := fun x hx => hlt x (by simp [hx])
  refine (walk H enc W base args ds p A hA hval0 hsz' hlt' hE).mono fun e W' ⟨he, bel⟩ => ?_
  subst he
  have hs := hfn H fn.params.toList args.toList enc W ds p hA
  have hs' : s.fn H (ds ++ []) = { results := [.lit (.bool true)], args := ds } := by rw [List.append_nil]; exact hs
  refine ⟨_, rfl, ds, [], p ++ [], [], p, [], hW', ?_, ?_, ?_, bel.frame _, fun h => by cases h⟩
  · rw [hs', hres]
    exact trodAll_mk1 (shut_bool Tryd.underlying4 true)
  · rw [hs']
    exact below_trodAll bel _ _ _ _ hread hA hlt'
  · rw [hs', hv]
    rfl
end Go.Proofs.YtnlncfjibbdimaaDoor

namespace Go.Proofs.YtnlncfjibbdimaaDoor
open Go.ChangeShapes Go.WideShapes Go.ChangeAt Go.RowKit Go.Deep
set_option linter.unusedSimpArgs false
set_option linter.unusedVariables false
def I64 (n : Int) : Prop := -9223372036854775808 ≤ n ∧ n ≤ 9223372036854775807
section
variable {H : Type} {enc : TypeId × Value → H} {w : World} {base : Nat} {spare : Nat → Bool} {held : Bool} {fuel : Nat} {cs : List Value} {x : DataW H × List MemPlace}
theorem trod_i64 (h : DataW.trod enc Tryd.prog w base spare held fuel 3 cs = some x) : ∃ n, cs = [.int .i64 n] ∧ I64 n := by
  obtain ⟨n, h1, _, h2⟩ := DataW.trod_int Tryd.underlying3 h
  exact ⟨n, h1, bounds_i64 h2⟩
/-- A struct's field reads, from its own cells. -/
theorem trod_field {t : TypeId} {fs : Array Field} (ht : Tryd.prog.underlying t = some (.struct fs)) (h : DataW.trod enc Tryd.prog w base spare held fuel t cs = some x) (i : Nat) (f : Field) (hi : fs[i]? = some f) :
    ∃ n y, DataW.trod enc Tryd.prog w base spare held n f.type ((cs.drop f.offset).take (Tryd.prog.cellsOf f.type)) = some y := by
  obtain ⟨xs, n, _, _, hlen, hxs, hf⟩ := DataW.trod_struct ht h
  have h0 := hf i f hi
  have hl : i < xs.length := by rw [hxs]; exact (Array.getElem?_eq_some_iff.1 hi).1
  rw [List.getElem?_eq_getElem hl] at h0
  exact ⟨n, _, h0⟩
theorem trod_len {t : TypeId} {fs : Array Field} (ht : Tryd.prog.underlying t = some (.struct fs)) (h : DataW.trod enc Tryd.prog w base spare held fuel t cs = some x) : cs.length = Tryd.prog.cellsOf t := by
  obtain ⟨xs, n, _, _, hlen, _⟩ := DataW.trod_struct ht h
  exact hlen
theorem cellsOf3 : Tryd.prog.cellsOf 3 = 1 := by kernel_rfl
theorem cellsOf23 : Tryd.prog.cellsOf 23 = 2 := by kernel_rfl
theorem list2 {α : Type} {l : List α} (h : l.length = 2) : ∃ a b, l = [a, b] := by
  match l, h with
  | [a, b], _ => exact ⟨a, b, rfl⟩
theorem trod_bal (h : DataW.trod enc Tryd.prog w base spare held fuel 23 cs = some x) : ∃ r n, cs = [.int .i64 r, .int .i64 n] ∧ I64 r ∧ I64 n := by
  have hlen := trod_len Tryd.underlying23 h
  obtain ⟨_, _, h0⟩ := trod_field Tryd.underlying23 h 0 _ rfl
  obtain ⟨_, _, h1⟩ := trod_field Tryd.underlying23 h 1 _ rfl
  rw [cellsOf23] at hlen
  obtain ⟨r, e0, b0⟩ := trod_i64 h0
  obtain ⟨k, e1, b1⟩ := trod_i64 h1
  clear h h0 h1
  obtain ⟨c0, c1, rfl⟩ := list2 hlen
  simp [cellsOf3] at e0 e1
  exact ⟨r, k, by rw [e0, e1], b0, b1⟩
end
end Go.Proofs.YtnlncfjibbdimaaDoor

namespace Go.Proofs.YtnlncfjibbdimaaDoor
open Go.ChangeShapes Go.WideShapes Go.ChangeAt Go.RowKit Go.Deep
set_option linter.unusedSimpArgs false
set_option linter.unusedVariables false
/-- A datum no part of which is heavier than memory. -/
def Light {H : Type} (t : TypeId) (d : DataW H) : Prop := ∀ n ∈ d.weights Tryd.prog t, n ≤ reachBytes
section
variable {H : Type} {enc : TypeId × Value → H} {w : World} {base : Nat} {spare : Nat → Bool} {held : Bool} {fuel : Nat} {cs : List Value} {x : DataW H × List MemPlace}
theorem weights_all {e : TypeId} : ∀ {ds : List (DataW H)} {d : DataW H}, d ∈ ds → ∀ n ∈ d.weights Tryd.prog e, n ∈ DataW.weightsAll Tryd.prog e ds
  | d0 :: ds, d, hd, n, hn => by
    simp only [DataW.weightsAll, List.mem_append]
    rcases List.mem_cons.1 hd with rfl | hd
    · exact .inl hn
    · exact .inr (weights_all hd n hn)
theorem light_of_each {ts : List TypeId} {ds : List (DataW H)} (h : (DataW.weightsEach Tryd.prog ts ds).all (· ≤ reachBytes) = true) {j : Nat} {t : TypeId} {d : DataW H} (ht : ts[j]? = some t) (hd : ds[j]? = some d) : Light t d := by
  intro n hn
  have := List.all_eq_true.1 h _ (DataW.weights_mem_each ht hd n hn)
  simpa using this
theorem light_field {t : TypeId} {fs : Array Field} (ht : Tryd.prog.underlying t = some (.struct fs)) (h : DataW.trod enc Tryd.prog w base spare held fuel t cs = some x) (hx : Light t x.1) (i : Nat) (f : Field) (hi : fs[i]? = some f) :
    ∃ n y, DataW.trod enc Tryd.prog w base spare held n f.type ((cs.drop f.offset).take (Tryd.prog.cellsOf f.type)) = some y ∧ Light f.type y.1 := by
  obtain ⟨xs, n, _, rfl, hlen, hxs, hf⟩ := DataW.trod_struct ht h
  have h0 := hf i f hi
  have hl : i < xs.length := by rw [hxs]; exact (Array.getElem?_eq_some_iff.1 hi).1
  rw [List.getElem?_eq_getElem hl] at h0
  refine ⟨n, _, h0, fun k hk => hx k ?_⟩
  simp only [DataW.weights, ht]
  exact DataW.weights_mem_each (j := i) (by simp [hi]) (by simp [hl]) k hk
theorem open_rows {t e : TypeId} (size bytes : Nat) (ht : Tryd.prog.underlying t = some (.slice e)) (hz : Tryd.prog.cellsOf e = size) (hby : Tryd.prog.bytesOf e = bytes) (h : DataW.trod enc Tryd.prog w base spare held fuel t cs = some x) (hx : Light t x.1) :
    ∃ A n c, cs = [.slice A n c] ∧ n ≤ c ∧ c ≤ maxLen ∧ n * bytes ≤ reachBytes ∧
      ∀ i, i < n → ∃ ad cs' m y, A = some ad ∧ (∀ j, j < size → w.cell? (ad.add (i * size + j)) = cs'[j]?) ∧ cs'.length = size ∧ DataW.trod enc Tryd.prog w base spare held m e cs' = some y ∧ Light e y.1 := by
  rcases DataW.trod_slice ht h with ⟨rfl, rfl⟩ | ⟨a, len, cap, elems, rest, n, _, rfl, rfl, hb, hl, hm, hlen, hel, _, _⟩
  · exact ⟨none, 0, 0, rfl, Nat.le_refl _, by simp [maxLen], by simp, fun i hi => absurd hi (by omega)⟩
  · have hw := hx ((elems.map (·.1)).length * bytes + (rest.map (·.1)).length * bytes) (by simp [DataW.weights, ht, hby, Nat.add_mul])
    refine ⟨some a, len, cap, rfl, hl, hm, ?_, ?_⟩
    · have : len * bytes = (elems.map (·.1)).length * bytes := by rw [List.length_map, hlen]
      omega
    · intro i hi
      have h0 := hel i hi
      rw [List.getElem?_eq_getElem (by omega)] at h0
      obtain ⟨cs', h1, h2⟩ := Option.bind_eq_some_iff.1 h0
      rw [hz] at h1
      obtain ⟨_, h3, h4⟩ := World.cells?_some h1
      refine ⟨a, cs', n, _, rfl, fun j hj => ?_, h3, h2, fun k hk => hx k ?_⟩
      · rw [← h4 j hj, add_of_add]
      · simp only [DataW.weights, ht, List.mem_cons, List.mem_append]
        exact .inr (.inl (weights_all (List.mem_map.2 ⟨elems[i], List.getElem_mem _, rfl⟩) k hk))
theorem bytesOf3 : Tryd.prog.bytesOf 3 = 8 := by kernel_rfl
theorem bytesOf81 : Tryd.prog.bytesOf 81 = 184 := by kernel_rfl
theorem cellsOf81 : Tryd.prog.cellsOf 81 = 18 := by kernel_rfl
theorem cellsOf74 : Tryd.prog.cellsOf 74 = 3 := by kernel_rfl
theorem cellsOf79 : Tryd.prog.cellsOf 79 = 5 := by kernel_rfl
theorem cellsOf40 : Tryd.prog.cellsOf 40 = 1 := by kernel_rfl
theorem reach47 {n : Nat} (h : n ≤ reachBytes) : n ≤ 140737488355328 := by unfold reachBytes at h; omega
theorem open_intsAt (h : DataW.trod enc Tryd.prog w base spare held fuel 40 cs = some x) (hx : Light 40 x.1) : ∃ v xs, cs = [v] ∧ IntsAt w 0 w.heap.size v xs ∧ ∀ z ∈ xs, I64 z := by
  obtain ⟨A, n, c, rfl, h1, h2, h3, h4⟩ := open_rows 1 8 Tryd.underlying40 cellsOf3 bytesOf3 h hx
  obtain ⟨f, hf⟩ := choose_lt (α := Int) (n := n) (p := fun i z => I64 z ∧ ∃ ad, A = some ad ∧ w.cell? (ad.add i) = some (.int .i64 z)) (fun i hi => by
    obtain ⟨ad, cs', m, y, e1, e2, e3, e4, _⟩ := h4 i hi
    obtain ⟨z, rfl, hz⟩ := trod_i64 e4
    exact ⟨z, hz, ad, e1, by have := e2 0 (by omega); simpa using this⟩)
  have hlen : ((List.range n).map f).length = n := by simp
  refine ⟨_, (List.range n).map f, rfl, ⟨A, c, by rw [hlen], by rw [hlen]; exact h1, h2, by rw [hlen]; exact reach47 h3, ?_⟩, ?_⟩
  · rw [hlen]
    refine ⟨by simp [ints_length], fun hn => ?_⟩
    obtain ⟨_, ad, rfl, hc⟩ := hf 0 hn
    refine ⟨ad, rfl, Nat.zero_le _, ?_, ?_⟩
    · have := World.block_lt_of_cell? w _ hc
      rwa [block_of_add] at this
    · intro j u hu
      rw [ints_getElem?] at hu
      rcases Nat.lt_or_ge j n with hj | hj
      · obtain ⟨_, ad', e, hc'⟩ := hf j hj
        injection e with e
        subst e
        simp [hj] at hu
        rw [hc', ← hu]
      · simp [List.getElem?_eq_none, hj] at hu
  · intro z hz
    obtain ⟨i, hi, rfl⟩ := List.mem_map.1 hz
    exact (hf i (by simpa using hi)).1
theorem trod_str (h : DataW.trod enc Tryd.prog w base spare held fuel 9 cs = some x) : ∃ s : ByteArray, cs = [.string s] ∧ s.size ≤ maxLen := by
  obtain ⟨s, h1, _, h2⟩ := DataW.trod_string Tryd.underlying9 h
  exact ⟨s, h1, h2⟩
theorem list3 {α : Type} {l : List α} (h : l.length = 3) : ∃ a b c, l = [a, b, c] := by
  match l, h with
  | [a, b, c], _ => exact ⟨a, b, c, rfl⟩
theorem list5 {α : Type} {l : List α} (h : l.length = 5) : ∃ a b c d e, l = [a, b, c, d, e] := by
  match l, h with
  | [a, b, c, d, e], _ => exact ⟨a, b, c, d, e, rfl⟩
theorem list18 {α : Type} {l : List α} (h : l.length = 18) : ∃ a b c d e f g i j k m n o p q r s t, l = [a, b, c, d, e, f, g, i, j, k, m, n, o, p, q, r, s, t] := by
  match l, h with
  | [a, b, c, d, e, f, g, i, j, k, m, n, o, p, q, r, s, t], _ => exact ⟨a, b, c, d, e, f, g, i, j, k, m, n, o, p, q, r, s, t, rfl⟩
theorem trod_id (h : DataW.trod enc Tryd.prog w base spare held fuel 74 cs = some x) : ∃ a b c, cs = [.int .i64 a, .int .i64 b, .int .i64 c] ∧ I64 a ∧ I64 b ∧ I64 c := by
  have hlen := trod_len Tryd.underlying74 h
  obtain ⟨_, _, h0⟩ := trod_field Tryd.underlying74 h 0 _ rfl
  obtain ⟨_, _, h1⟩ := trod_field Tryd.underlying74 h 1 _ rfl
  obtain ⟨_, _, h2⟩ := trod_field Tryd.underlying74 h 2 _ rfl
  rw [cellsOf74] at hlen
  obtain ⟨a, e0, b0⟩ := trod_i64 h0
  obtain ⟨b, e1, b1⟩ := trod_i64 h1
  obtain ⟨c, e2, b2⟩ := trod_i64 h2
  clear h h0 h1 h2
  obtain ⟨c0, c1, c2, rfl⟩ := list3 hlen
  simp [cellsOf3] at e0 e1 e2
  exact ⟨a, b, c, by rw [e0, e1, e2], b0, b1, b2⟩
theorem flatten_len (rows : List (List Value)) (hl : ∀ r ∈ rows, r.length = 18) : rows.flatten.length = rows.length * 18 := by
  induction rows with
  | nil => rfl
  | cons r rows ih =>
    rw [List.flatten_cons, List.length_append, ih (fun r h => hl r (by simp [h])), hl r (by simp), List.length_cons]
    omega
instance : Inhabited Cmd := ⟨⟨0, 0, 0, 0, ByteArray.empty, ByteArray.empty, 0, 0, 0, 0, 0, 0, 0, ByteArray.empty, 0, [], 0, 0⟩⟩
/-- A script's element. -/
structure OpR where
  kind : Int
  which : Int
  r : Int
  n : Int
  lv : Value
  led : List Cmd
instance : Inhabited OpR := ⟨⟨0, 0, 0, 0, .slice none 0 0, []⟩⟩
end
end Go.Proofs.YtnlncfjibbdimaaDoor

namespace Go.Proofs.YtnlncfjibbdimaaDoor
open Go.ChangeShapes Go.WideShapes Go.ChangeAt Go.RowKit
set_option linter.unusedSimpArgs false
set_option linter.unusedVariables false
set_option maxRecDepth 100000
theorem arg_int' {w : World} {r : Reach} {base : Nat} {v : Value} {t : TypeId} {k : IntKind} (ht : Tryd.prog.underlying t = some (.int k)) (h : Value.okWide Tryd.prog w r base t v) : v.cells.toList = [v] := by
  simp only [Value.okWide, ht, Cell.okWide] at h
  cases v <;> simp_all [Cell.ok, Value.cells]
end Go.Proofs.YtnlncfjibbdimaaDoor
