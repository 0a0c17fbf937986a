/-
  How ledgers and scripts lie in memory: off the row's reading of an argument.
-/
import Derived.Test.YtnlncfjibbdimaaDoorOpen
import Derived.SizedLaws
namespace Go.Proofs.YtnlncfjibbdimaaDoor
open Go.ChangeShapes Go.WideShapes Go.ChangeAt Go.RowKit Go.Deep
set_option linter.unusedSimpArgs false
set_option linter.unusedVariables false

/-- A datum no part of which is heavier than memory. -/
def Light {H : Type} (t : TypeId) (d : DataW H) : Prop := ∀ n ∈ d.weights Tryd.prog t, n ≤ reachBytes

section
variable {H : Type} {enc : TypeId × Value → H} {w : World} {base : Nat} {spare : Nat → Bool} {held : Bool} {fuel : Nat} {cs : List Value} {x : DataW H × List MemPlace}

theorem weights_all {e : TypeId} : ∀ {ds : List (DataW H)} {d : DataW H}, d ∈ ds → ∀ n ∈ d.weights Tryd.prog e, n ∈ DataW.weightsAll Tryd.prog e ds
  | d0 :: ds, d, hd, n, hn => by
    simp only [DataW.weightsAll, List.mem_append]
    rcases List.mem_cons.1 hd with rfl | hd
    · exact .inl hn
    · exact .inr (weights_all hd n hn)

theorem light_of_each {ts : List TypeId} {ds : List (DataW H)} (h : (DataW.weightsEach Tryd.prog ts ds).all (· ≤ reachBytes) = true) {j : Nat} {t : TypeId} {d : DataW H} (ht : ts[j]? = some t) (hd : ds[j]? = some d) : Light t d := by
  intro n hn
  have := List.all_eq_true.1 h _ (DataW.weights_mem_each ht hd n hn)
  simpa using this

theorem light_field {t : TypeId} {fs : Array Field} (ht : Tryd.prog.underlying t = some (.struct fs)) (h : DataW.trod enc Tryd.prog w base spare held fuel t cs = some x) (hx : Light t x.1) (i : Nat) (f : Field) (hi : fs[i]? = some f) :
    ∃ n y, DataW.trod enc Tryd.prog w base spare held n f.type ((cs.drop f.offset).take (Tryd.prog.cellsOf f.type)) = some y ∧ Light f.type y.1 := by
  obtain ⟨xs, n, _, rfl, hlen, hxs, hf⟩ := DataW.trod_struct ht h
  have h0 := hf i f hi
  have hl : i < xs.length := by rw [hxs]; exact (Array.getElem?_eq_some_iff.1 hi).1
  rw [List.getElem?_eq_getElem hl] at h0
  refine ⟨n, _, h0, fun k hk => hx k ?_⟩
  simp only [DataW.weights, ht]
  exact DataW.weights_mem_each (j := i) (by simp [hi]) (by simp [hl]) k hk

theorem open_rows {t e : TypeId} (size bytes : Nat) (ht : Tryd.prog.underlying t = some (.slice e)) (hz : Tryd.prog.cellsOf e = size) (hby : Tryd.prog.bytesOf e = bytes) (h : DataW.trod enc Tryd.prog w base spare held fuel t cs = some x) (hx : Light t x.1) :
    ∃ A n c, cs = [.slice A n c] ∧ n ≤ c ∧ c ≤ maxLen ∧ n * bytes ≤ reachBytes ∧
      ∀ i, i < n → ∃ ad cs' m y, A = some ad ∧ (∀ j, j < size → w.cell? (ad.add (i * size + j)) = cs'[j]?) ∧ cs'.length = size ∧ DataW.trod enc Tryd.prog w base spare held m e cs' = some y ∧ Light e y.1 := by
  rcases DataW.trod_slice ht h with ⟨rfl, rfl⟩ | ⟨a, len, cap, elems, rest, n, _, rfl, rfl, hb, hl, hm, hlen, hel, _, _⟩
  · exact ⟨none, 0, 0, rfl, Nat.le_refl _, by simp [maxLen], by simp, fun i hi => absurd hi (by omega)⟩
  · have hw := hx ((elems.map (·.1)).length * bytes + (rest.map (·.1)).length * bytes) (by simp [DataW.weights, ht, hby, Nat.add_mul])
    refine ⟨some a, len, cap, rfl, hl, hm, ?_, ?_⟩
    · have : len * bytes = (elems.map (·.1)).length * bytes := by rw [List.length_map, hlen]
      omega
    · intro i hi
      have h0 := hel i hi
      rw [List.getElem?_eq_getElem (by omega)] at h0
      obtain ⟨cs', h1, h2⟩ := Option.bind_eq_some_iff.1 h0
      rw [hz] at h1
      obtain ⟨_, h3, h4⟩ := World.cells?_some h1
      refine ⟨a, cs', n, _, rfl, fun j hj => ?_, h3, h2, fun k hk => hx k ?_⟩
      · rw [← h4 j hj, add_of_add]
      · simp only [DataW.weights, ht, List.mem_cons, List.mem_append]
        exact .inr (.inl (weights_all (List.mem_map.2 ⟨elems[i], List.getElem_mem _, rfl⟩) k hk))

theorem bytesOf3 : Tryd.prog.bytesOf 3 = 8 := by kernel_rfl
theorem bytesOf81 : Tryd.prog.bytesOf 81 = 184 := by kernel_rfl
theorem cellsOf81 : Tryd.prog.cellsOf 81 = 18 := by kernel_rfl
theorem cellsOf74 : Tryd.prog.cellsOf 74 = 3 := by kernel_rfl
theorem cellsOf79 : Tryd.prog.cellsOf 79 = 5 := by kernel_rfl
theorem cellsOf40 : Tryd.prog.cellsOf 40 = 1 := by kernel_rfl
theorem cellsOf46 : Tryd.prog.cellsOf 46 = 1 := by kernel_rfl
theorem cellsOf61 : Tryd.prog.cellsOf 61 = 5 := by kernel_rfl
theorem bytesOf61 : Tryd.prog.bytesOf 61 = 56 := by kernel_rfl

theorem reach47 {n : Nat} (h : n ≤ reachBytes) : n ≤ 140737488355328 := by unfold reachBytes at h; omega

theorem open_intsAt (h : DataW.trod enc Tryd.prog w base spare held fuel 40 cs = some x) (hx : Light 40 x.1) : ∃ v xs, cs = [v] ∧ IntsAt w 0 w.heap.size v xs ∧ ∀ z ∈ xs, I64 z := by
  obtain ⟨A, n, c, rfl, h1, h2, h3, h4⟩ := open_rows 1 8 Tryd.underlying40 cellsOf3 bytesOf3 h hx
  obtain ⟨f, hf⟩ := choose_lt (α := Int) (n := n) (p := fun i z => I64 z ∧ ∃ ad, A = some ad ∧ w.cell? (ad.add i) = some (.int .i64 z)) (fun i hi => by
    obtain ⟨ad, cs', m, y, e1, e2, e3, e4, _⟩ := h4 i hi
    obtain ⟨z, rfl, hz⟩ := trod_i64 e4
    exact ⟨z, hz, ad, e1, by have := e2 0 (by omega); simpa using this⟩)
  have hlen : ((List.range n).map f).length = n := by simp
  refine ⟨_, (List.range n).map f, rfl, ⟨A, c, by rw [hlen], by rw [hlen]; exact h1, h2, by rw [hlen]; exact reach47 h3, ?_⟩, ?_⟩
  · rw [hlen]
    refine ⟨by simp [ints_length], fun hn => ?_⟩
    obtain ⟨_, ad, rfl, hc⟩ := hf 0 hn
    refine ⟨ad, rfl, Nat.zero_le _, ?_, ?_⟩
    · have := World.block_lt_of_cell? w _ hc
      rwa [block_of_add] at this
    · intro j u hu
      rw [ints_getElem?] at hu
      rcases Nat.lt_or_ge j n with hj | hj
      · obtain ⟨_, ad', e, hc'⟩ := hf j hj
        injection e with e
        subst e
        simp [hj] at hu
        rw [hc', ← hu]
      · simp [List.getElem?_eq_none, hj] at hu
  · intro z hz
    obtain ⟨i, hi, rfl⟩ := List.mem_map.1 hz
    exact (hf i (by simpa using hi)).1

theorem trod_str (h : DataW.trod enc Tryd.prog w base spare held fuel 9 cs = some x) : ∃ s : ByteArray, cs = [.string s] ∧ s.size ≤ maxLen := by
  obtain ⟨s, h1, _, h2⟩ := DataW.trod_string Tryd.underlying9 h
  exact ⟨s, h1, h2⟩

theorem list3 {α : Type} {l : List α} (h : l.length = 3) : ∃ a b c, l = [a, b, c] := by
  match l, h with
  | [a, b, c], _ => exact ⟨a, b, c, rfl⟩
theorem list5 {α : Type} {l : List α} (h : l.length = 5) : ∃ a b c d e, l = [a, b, c, d, e] := by
  match l, h with
  | [a, b, c, d, e], _ => exact ⟨a, b, c, d, e, rfl⟩
theorem list18 {α : Type} {l : List α} (h : l.length = 18) : ∃ a b c d e f g i j k m n o p q r s t, l = [a, b, c, d, e, f, g, i, j, k, m, n, o, p, q, r, s, t] := by
  match l, h with
  | [a, b, c, d, e, f, g, i, j, k, m, n, o, p, q, r, s, t], _ => exact ⟨a, b, c, d, e, f, g, i, j, k, m, n, o, p, q, r, s, t, rfl⟩

theorem trod_id (h : DataW.trod enc Tryd.prog w base spare held fuel 74 cs = some x) : ∃ a b c, cs = [.int .i64 a, .int .i64 b, .int .i64 c] ∧ I64 a ∧ I64 b ∧ I64 c := by
  have hlen := trod_len Tryd.underlying74 h
  obtain ⟨_, _, h0⟩ := trod_field Tryd.underlying74 h 0 _ rfl
  obtain ⟨_, _, h1⟩ := trod_field Tryd.underlying74 h 1 _ rfl
  obtain ⟨_, _, h2⟩ := trod_field Tryd.underlying74 h 2 _ rfl
  rw [cellsOf74] at hlen
  obtain ⟨a, e0, b0⟩ := trod_i64 h0
  obtain ⟨b, e1, b1⟩ := trod_i64 h1
  obtain ⟨c, e2, b2⟩ := trod_i64 h2
  clear h h0 h1 h2
  obtain ⟨c0, c1, c2, rfl⟩ := list3 hlen
  simp [cellsOf3] at e0 e1 e2
  exact ⟨a, b, c, by rw [e0, e1, e2], b0, b1, b2⟩

theorem trod_piece (h : DataW.trod enc Tryd.prog w base spare held fuel 79 cs = some x) : ∃ a b c z s, cs = [.int .i64 a, .int .i64 b, .int .i64 c, .int .i64 z, .string s] := by
  have hlen := trod_len Tryd.underlying79 h
  obtain ⟨_, _, h0⟩ := trod_field Tryd.underlying79 h 0 _ rfl
  obtain ⟨_, _, h1⟩ := trod_field Tryd.underlying79 h 1 _ rfl
  obtain ⟨_, _, h2⟩ := trod_field Tryd.underlying79 h 2 _ rfl
  rw [cellsOf79] at hlen
  obtain ⟨a, b, c, e0, _⟩ := trod_id h0
  obtain ⟨z, e1, _⟩ := trod_i64 h1
  obtain ⟨s, e2, _⟩ := trod_str h2
  clear h h0 h1 h2
  obtain ⟨c0, c1, c2, c3, c4, rfl⟩ := list5 hlen
  simp [cellsOf3, cellsOf74, cells9] at e0 e1 e2
  exact ⟨a, b, c, z, s, by rw [e0.1, e0.2.1, e0.2.2, e1, e2]⟩

theorem open_cmd (h : DataW.trod enc Tryd.prog w base spare held fuel 81 cs = some x) (hx : Light 81 x.1) : ∃ c, CmdAt w 0 w.heap.size cs c := by
  have hlen := trod_len Tryd.underlying81 h
  obtain ⟨_, _, h0⟩ := trod_field Tryd.underlying81 h 0 _ rfl
  obtain ⟨_, _, h1⟩ := trod_field Tryd.underlying81 h 1 _ rfl
  obtain ⟨_, _, h2⟩ := trod_field Tryd.underlying81 h 2 _ rfl
  obtain ⟨_, _, h3⟩ := trod_field Tryd.underlying81 h 3 _ rfl
  obtain ⟨_, _, h4⟩ := trod_field Tryd.underlying81 h 4 _ rfl
  obtain ⟨_, _, h5⟩ := trod_field Tryd.underlying81 h 5 _ rfl
  obtain ⟨_, _, h6⟩ := trod_field Tryd.underlying81 h 6 _ rfl
  obtain ⟨_, _, h7, l7⟩ := light_field Tryd.underlying81 h hx 7 _ rfl
  obtain ⟨_, _, h8⟩ := trod_field Tryd.underlying81 h 8 _ rfl
  obtain ⟨_, _, h9⟩ := trod_field Tryd.underlying81 h 9 _ rfl
  rw [cellsOf81] at hlen
  obtain ⟨kind, e0, _⟩ := trod_i64 h0
  obtain ⟨i1, i2, i3, e1, _⟩ := trod_id h1
  obtain ⟨bu, e2, _⟩ := trod_str h2
  obtain ⟨ke, e3, _⟩ := trod_str h3
  obtain ⟨u1, u2, u3, e4, _⟩ := trod_id h4
  obtain ⟨p1, p2, p3, pz, pe, e5⟩ := trod_piece h5
  obtain ⟨part, e6, _⟩ := trod_i64 h6
  obtain ⟨pv, parts, e7, hi, _⟩ := open_intsAt h7 l7
  obtain ⟨time, e8, _⟩ := trod_i64 h8
  obtain ⟨days, e9, _⟩ := trod_i64 h9
  clear h h0 h1 h2 h3 h4 h5 h6 h7 h8 h9 l7 hx
  obtain ⟨c0, c1, c2, c3, c4, c5, c6, c7, c8, c9, c10, c11, c12, c13, c14, c15, c16, c17, rfl⟩ := list18 hlen
  simp [cellsOf3, cellsOf74, cells9, cellsOf79, cellsOf40] at e0 e1 e2 e3 e4 e5 e6 e7 e8 e9
  refine ⟨⟨kind, i1, i2, i3, bu, ke, u1, u2, u3, p1, p2, p3, pz, pe, part, parts, time, days⟩, pv, ?_, hi⟩
  simp only [Cmd.cells, e0, e1.1, e1.2.1, e1.2.2, e2, e3, e4.1, e4.2.1, e4.2.2, e5.1, e5.2.1, e5.2.2.1, e5.2.2.2.1, e5.2.2.2.2, e6, e7, e8, e9]

theorem flatten_len (rows : List (List Value)) (hl : ∀ r ∈ rows, r.length = 18) : rows.flatten.length = rows.length * 18 := by
  induction rows with
  | nil => rfl
  | cons r rows ih =>
    rw [List.flatten_cons, List.length_append, ih (fun r h => hl r (by simp [h])), hl r (by simp), List.length_cons]
    omega

instance : Inhabited Cmd := ⟨⟨0, 0, 0, 0, ByteArray.empty, ByteArray.empty, 0, 0, 0, 0, 0, 0, 0, ByteArray.empty, 0, [], 0, 0⟩⟩

theorem open_led (h : DataW.trod enc Tryd.prog w base spare held fuel 46 cs = some x) (hx : Light 46 x.1) : ∃ v l, cs = [v] ∧ LedAt w 0 w.heap.size v l := by
  obtain ⟨A, n, c, rfl, h1, h2, h3, h4⟩ := open_rows 18 184 Tryd.underlying46 cellsOf81 bytesOf81 h hx
  obtain ⟨f, hf⟩ := choose_lt (α := List Value × Cmd) (n := n) (p := fun i z => CmdAt w 0 w.heap.size z.1 z.2 ∧ z.1.length = 18 ∧ ∃ ad, A = some ad ∧ ∀ j, j < 18 → w.cell? (ad.add (i * 18 + j)) = z.1[j]?) (fun i hi => by
    obtain ⟨ad, cs', m, y, e1, e2, e3, e4, e5⟩ := h4 i hi
    obtain ⟨z, hz⟩ := open_cmd e4 e5
    exact ⟨(cs', z), hz, e3, ad, e1, e2⟩)
  have hlen : ((List.range n).map fun i => (f i).2).length = n := by simp
  have hr18 : ∀ r ∈ (List.range n).map (fun i => (f i).1), r.length = 18 := by
    intro r hr
    obtain ⟨i, hi, rfl⟩ := List.mem_map.1 hr
    exact (hf i (by simpa using hi)).2.1
  have hfl := flatten_len _ hr18
  refine ⟨_, (List.range n).map fun i => (f i).2, rfl, ⟨A, c, (List.range n).map fun i => (f i).1, by rw [hlen], by rw [hlen]; exact h1, h2, by rw [hlen]; exact reach47 h3, ?_, ?_, ?_⟩⟩
  · rw [hlen]
    refine ⟨by rw [hfl]; simp, fun hn => ?_⟩
    obtain ⟨_, h18, ad, rfl, hc⟩ := hf 0 hn
    refine ⟨ad, rfl, Nat.zero_le _, ?_, ?_⟩
    · have hc0 := hc 0 (by omega)
      rw [List.getElem?_eq_getElem (by omega)] at hc0
      have := World.block_lt_of_cell? w _ hc0
      rwa [block_of_add] at this
    · intro j u hu
      have hj : j < n * 18 := by
        have := (List.getElem?_eq_some_iff.1 hu).1
        rw [hfl] at this
        simpa using this
      have hjn : j / 18 < n := by omega
      obtain ⟨_, _, ad', e, hc'⟩ := hf (j / 18) hjn
      injection e with e
      subst e
      have hj' : j = j / 18 * 18 + j % 18 := by omega
      have hg := flatten_get _ hr18 (j / 18) (j % 18) (f (j / 18)).1 (by simp [hjn]) (by omega)
      rw [← hj'] at hg
      have := hc' (j % 18) (by omega)
      rw [← hj'] at this
      rw [this, ← hg, hu]
  · simp
  · intro i r cm hr hcm
    have hi : i < n := by have := (List.getElem?_eq_some_iff.1 hr).1; simpa using this
    simp [hi] at hr hcm
    subst hr; subst hcm
    exact (hf i hi).1

/-- A script's element. -/
structure OpR where
  kind : Int
  which : Int
  r : Int
  n : Int
  lv : Value
  led : List Cmd

def OpR.cells (o : OpR) : List Value := [.int .i64 o.kind, .int .i64 o.which, .int .i64 o.r, .int .i64 o.n, o.lv]
def OpR.ok (w : World) (hi : Nat) (o : OpR) : Prop := I64 o.kind ∧ I64 o.which ∧ I64 o.r ∧ I64 o.n ∧ LedAt w 0 hi o.lv o.led

instance : Inhabited OpR := ⟨⟨0, 0, 0, 0, .slice none 0 0, []⟩⟩

theorem open_op (h : DataW.trod enc Tryd.prog w base spare held fuel 61 cs = some x) (hx : Light 61 x.1) : ∃ o : OpR, cs = o.cells ∧ o.ok w w.heap.size := by
  have hlen := trod_len Tryd.underlying61 h
  obtain ⟨_, _, h0⟩ := trod_field Tryd.underlying61 h 0 _ rfl
  obtain ⟨_, _, h1⟩ := trod_field Tryd.underlying61 h 1 _ rfl
  obtain ⟨_, _, h2⟩ := trod_field Tryd.underlying61 h 2 _ rfl
  obtain ⟨_, _, h3, l3⟩ := light_field Tryd.underlying61 h hx 3 _ rfl
  rw [cellsOf61] at hlen
  obtain ⟨k, e0, b0⟩ := trod_i64 h0
  obtain ⟨wh, e1, b1⟩ := trod_i64 h1
  obtain ⟨r, n, e2, b2, b3⟩ := trod_bal h2
  obtain ⟨v, l, e3, hl⟩ := open_led h3 l3
  clear h h0 h1 h2 h3 l3 hx
  obtain ⟨c0, c1, c2, c3, c4, rfl⟩ := list5 hlen
  simp [cellsOf3, cellsOf23, cellsOf46] at e0 e1 e2 e3
  exact ⟨⟨k, wh, r, n, v, l⟩, by simp only [OpR.cells, e0, e1, e2.1, e2.2, e3], b0, b1, b2, b3, hl⟩

/-- A script in memory. -/
def ScriptAt (w : World) (v : Value) (os : List OpR) : Prop :=
  ∃ A c, v = .slice A os.length c ∧ os.length ≤ c ∧ c ≤ maxLen ∧ ∀ i o, os[i]? = some o → ∃ ad, A = some ad ∧ ad.block < w.heap.size ∧ (∀ j, j < 5 → w.cell? (ad.add (i * 5 + j)) = o.cells[j]?) ∧ o.ok w w.heap.size

theorem open_script (h : DataW.trod enc Tryd.prog w base spare held fuel 54 cs = some x) (hx : Light 54 x.1) : ∃ v os, cs = [v] ∧ ScriptAt w v os := by
  obtain ⟨A, n, c, rfl, h1, h2, h3, h4⟩ := open_rows 5 56 Tryd.underlying54 cellsOf61 bytesOf61 h hx
  obtain ⟨f, hf⟩ := choose_lt (α := OpR) (n := n) (p := fun i o => ∃ ad, A = some ad ∧ ad.block < w.heap.size ∧ (∀ j, j < 5 → w.cell? (ad.add (i * 5 + j)) = o.cells[j]?) ∧ o.ok w w.heap.size) (fun i hi => by
    obtain ⟨ad, cs', m, y, e1, e2, e3, e4, e5⟩ := h4 i hi
    obtain ⟨o, rfl, ho⟩ := open_op e4 e5
    refine ⟨o, ad, e1, ?_, e2, ho⟩
    have hc := e2 0 (by omega)
    have := World.block_lt_of_cell? w _ (hc.trans (rfl : o.cells[0]? = some _))
    rwa [block_of_add] at this)
  have hlen : ((List.range n).map f).length = n := by simp
  refine ⟨_, (List.range n).map f, rfl, A, c, by rw [hlen], by rw [hlen]; exact h1, h2, ?_⟩
  intro i o ho
  have hi : i < n := by have := (List.getElem?_eq_some_iff.1 ho).1; simpa using this
  simp [hi] at ho
  subst ho
  exact hf i hi

end
end Go.Proofs.YtnlncfjibbdimaaDoor
