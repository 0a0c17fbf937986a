/-
  A region that draws its order, loads cells and stores into them behind: what the loads read is held until the first store has come up.
-/
import Derived.Deep.RegionHeld
namespace Go

section
variable {P : Program} {ops : Array Oper} {Q : Exit → Act → World → Prop} {md : Region.Mode} {S : World → Prop} {c : Nat}

/-- Whatever order is picked; while number c has not come up, S holds behind each operation that is carried out. -/
def wpAnyU (P : Program) (md : Region.Mode) (ops : Array Oper) (Q : Exit → Act → World → Prop) (S : World → Prop) (c : Nat) : Nat → Array Bool → Act → World → Prop
  | 0, l, a, w => Region.ready md ops l = [] ∧ Q .normal a w
  | n + 1, l, a, w => (Region.ready md ops l = [] → Q .normal a w) ∧
      ∀ i ∈ Region.ready md ops l, wpOp P ops Q i (fun a' w' => ((l.setIfInBounds i true).getD c true = false → S w') ∧ wpAnyU P md ops Q S c n (l.setIfInBounds i true) a' w') a w

theorem wpAny_of_until : ∀ (n : Nat) (l : Array Bool) (a : Act) (w : World), wpAnyU P md ops Q S c n l a w → wpAny P md ops Q n l a w
  | 0, _, _, _, h => h
  | n + 1, _, _, _, h => ⟨h.1, fun i hi => wpOp_mono (fun a' w' h' => wpAny_of_until n _ a' w' h'.2) (h.2 i hi)⟩

/-- Operation c waits for operation i. -/
def waitsFor (md : Region.Mode) (ops : Array Oper) (c i : Nat) : Bool := match ops[c]? with
  | some o => o.after.any fun e => Region.binds md e && e.on == i
  | none => false
theorem not_ready {l : Array Bool} {i : Nat} (h : waitsFor md ops c i = true) (hi : l.getD i true = false) : c ∉ Region.ready md ops l := by
  intro hr
  obtain ⟨_, o, ho, hall⟩ := mem_ready.1 hr
  unfold waitsFor at h
  rw [ho] at h
  obtain ⟨e, he, hb⟩ := Array.any_eq_true'.1 h
  simp only [Bool.and_eq_true, beq_iff_eq] at hb
  obtain ⟨hb, rfl⟩ := hb
  have h1 := hall e he hb
  rcases Nat.lt_or_ge e.on l.size with h' | h'
  · simp [h'] at hi h1
    rw [hi] at h1
    cases h1
  · simp [Array.getElem?_eq_none h'] at hi

/-- What yields in every world that meets T may be taken first; T: what is held, if c waits for it; no more than 'a world', if not. -/
theorem wpAnyU_first {T : World → Prop} {i : Nat} (hic : i ≠ c) {oi : Oper} {v : Value} (hi : ops[i]? = some oi) (hsel : ∀ (j : Nat) (o : Oper) cs b, ops[j]? = some o → o.op ≠ .select cs b)
    (hQ : ∀ c a w, Q (.panic c) (a.put oi.dst v) w → Q (.panic c) a w) (hT : (waitsFor md ops c i = true ∧ ∀ w, S w → T w) ∨ ∀ w, T w) :
    ∀ (n : Nat) (l : Array Bool) (a : Act) (w : World), l.getD c true = false ∨ (∀ w, T w) →
      (∀ j oj, ops[j]? = some oj → j ≠ i → l.getD j true = false → (∀ e ∈ oj.after, Region.binds md e = true → e.on ≠ i) → oi.apart ops oj = true) →
      i ∈ Region.ready md ops l → YieldsIf P ops T oi v a → T w → (l.getD c true = false → S w) →
      wpAnyU P md ops Q S c n (l.setIfInBounds i true) (a.put oi.dst v) w → wpAnyU P md ops Q S c (n + 1) l a w := by
  have back : ∀ (l : Array Bool) (k : Nat), k ∈ Region.ready md ops l → (l.setIfInBounds k true).getD c true = false → l.getD c true = false := fun l k hk h => by
    by_cases e : k = c
    · subst e
      rw [← h]
      have := (mem_ready.1 hk).1
      rcases Nat.lt_or_ge k l.size with h' | h'
      · simp [h'] at h
      · simp [Array.getElem?_eq_none h'] at this
    · rw [getD_set_ne true e] at h; exact h
  intro n
  induction n with
  | zero =>
    intro l a w _ _ hr hy hTw hSw H
    refine ⟨fun h => (by rw [h] at hr; cases hr), fun j hj => ?_⟩
    by_cases hji : j = i
    · subst hji; exact hy.wpOp hi hTw ⟨fun h => hSw (back l j hj h), H⟩
    · have := ready_mono hj hji
      rw [H.1] at this
      cases this
  | succ n ih =>
    intro l a w hc hfree hr hy hTw hSw H
    refine ⟨fun h => (by rw [h] at hr; cases hr), fun j hj => ?_⟩
    by_cases hji : j = i
    · subst hji; exact hy.wpOp hi hTw ⟨fun h => hSw (back l j hj h), H⟩
    · have h1 := H.2 j (ready_mono hj hji)
      obtain ⟨hjun, oj, hoj, hall⟩ := mem_ready.1 hj
      have hnot : ∀ e ∈ oj.after, Region.binds md e = true → e.on ≠ i := fun e he hb heq => by
        have h1 := hall e he hb
        have h0 := (mem_ready.1 hr).1
        rw [heq] at h1
        rcases Nat.lt_or_ge i l.size with h' | h'
        · simp [h'] at h0 h1; rw [h0] at h1; cases h1
        · simp [Array.getElem?_eq_none h'] at h1
      have hiun := (mem_ready.1 hr).1
      have h2 := wpOp_putIf hoj (hfree j oj hoj hji hjun hnot) (fun cs b => hsel i oi cs b hi) (fun cs b => hsel j oj cs b hoj) hQ hy h1
      have hfree' : ∀ k ok, ops[k]? = some ok → k ≠ i → (l.setIfInBounds j true).getD k true = false →
          (∀ e ∈ ok.after, Region.binds md e = true → e.on ≠ i) → oi.apart ops ok = true := fun k ok hk hki hun hno => by
        refine hfree k ok hk hki ?_ hno
        by_cases hjk : j = k
        · subst hjk; exact hjun
        · rw [getD_set_ne true hjk] at hun; exact hun
      -- a store that c stands for has not come up: it waits for i
      have hcj : (l.setIfInBounds j true).getD c true = false ∨ (∀ w, T w) := by
        rcases hT with ⟨hw, _⟩ | hT
        · rcases hc with hc | hc
          · left
            have hjc : j ≠ c := fun e => by subst e; exact not_ready hw hiun hj
            rw [getD_set_ne true hjc]; exact hc
          · exact .inr hc
        · exact .inr hT
      have hsetS : ∀ w', ((((l.setIfInBounds i true).setIfInBounds j true).getD c true = false) → S w') → ((l.setIfInBounds j true).getD c true = false → S w') := fun w' hh hlt => by
        refine hh ?_
        by_cases e : i = c
        · subst e
          rcases hT with ⟨hw, _⟩ | hT
          · exact absurd hr (not_ready hw hiun)
          · exact absurd rfl hic
        · rw [Array.setIfInBounds_comm _ _ (Ne.symm hji), getD_set_ne true e]; exact hlt
      refine wpOp_mono (fun a' w' h3 => ⟨hsetS w' h3.2.1, ih (l.setIfInBounds j true) a' w' hcj hfree' (ready_mono hr (Ne.symm hji)) h3.1 ?_ (hsetS w' h3.2.1) ?_⟩) h2
      · rcases hcj with h | h
        · rcases hT with ⟨_, hT⟩ | hT
          · exact hT w' (hsetS w' h3.2.1 h)
          · exact hT w'
        · exact h w'
      · rw [Array.setIfInBounds_comm _ _ hji]
        exact h3.2.2

/-- A load whose cell only what waits for it writes: c is the first store. -/
theorem wpAnyU_load {i : Nat} {oi : Oper} {v : Value} {n : Nat} {l : Array Bool} {a : Act} {w : World} (hi : ops[i]? = some oi)
    (hs : Region.noSelect ops = true) (hf : Region.free md ops l i = true) (hr : (Region.ready md ops l).contains i = true) (hic : i ≠ c) (hw : waitsFor md ops c i = true) (hc : l.getD c true = false)
    (hQ : ∀ c a w, Q (.panic c) (a.put oi.dst v) w → Q (.panic c) a w) (hy : YieldsIf P ops S oi v a) (hS : S w)
    (h : wpAnyU P md ops Q S c n (l.setIfInBounds i true) (a.put oi.dst v) w) : wpAnyU P md ops Q S c (n + 1) l a w :=
  wpAnyU_first hic hi (Region.noSelect_spec hs) hQ (.inl ⟨hw, fun _ h => h⟩) n l a w (.inl hc) (Region.free_spec hi hf) (by simpa using hr) hy hS (fun _ => hS) h
/-- What yields in whatever world. -/
theorem wpAnyU_take {i : Nat} {oi : Oper} {v : Value} {n : Nat} {l : Array Bool} {a : Act} {w : World} (hi : ops[i]? = some oi)
    (hs : Region.noSelect ops = true) (hf : Region.free md ops l i = true) (hr : (Region.ready md ops l).contains i = true) (hic : i ≠ c)
    (hQ : ∀ c a w, Q (.panic c) (a.put oi.dst v) w → Q (.panic c) a w) (hy : YieldsIf P ops (fun _ => True) oi v a) (hS : l.getD c true = false → S w)
    (h : wpAnyU P md ops Q S c n (l.setIfInBounds i true) (a.put oi.dst v) w) : wpAnyU P md ops Q S c (n + 1) l a w :=
  wpAnyU_first hic hi (Region.noSelect_spec hs) hQ (.inr fun _ => trivial) n l a w (.inr fun _ => trivial) (Region.free_spec hi hf) (by simpa using hr) hy trivial hS h
theorem wpAnyU_done {l : Array Bool} {a : Act} {w : World} (hr : Region.ready md ops l = []) (h : Q .normal a w) : ∀ n, wpAnyU P md ops Q S c n l a w
  | 0 => ⟨hr, h⟩
  | _ + 1 => ⟨fun _ => h, by rw [hr]; simp⟩
/-- Each of the operations rs comes up next. -/
def AllReadyU (P : Program) (md : Region.Mode) (ops : Array Oper) (Q : Exit → Act → World → Prop) (S : World → Prop) (c n : Nat) (l : Array Bool) (a : Act) (w : World) (rs : List Nat) : Prop :=
  ∀ i ∈ rs, wpOp P ops Q i (fun a' w' => ((l.setIfInBounds i true).getD c true = false → S w') ∧ wpAnyU P md ops Q S c n (l.setIfInBounds i true) a' w') a w
theorem AllReadyU.nil {n : Nat} {l : Array Bool} {a : Act} {w : World} : AllReadyU P md ops Q S c n l a w [] := fun _ h => by cases h
theorem AllReadyU.cons {n : Nat} {l : Array Bool} {a : Act} {w : World} {i : Nat} {o : Oper} {rs : List Nat} (ho : ops[i]? = some o)
    (h : ∀ K' : Act → World → Prop, Shut (∀ a w, ((l.setIfInBounds i true).getD c true = false → S w) → wpAnyU P md ops Q S c n (l.setIfInBounds i true) a w → K' a w) → if Region.wanted o (yielded ops a.tmps) = true then Oper.wp P o a w K' Q else K' (a.put o.dst undef) w)
    (hs : AllReadyU P md ops Q S c n l a w rs) : AllReadyU P md ops Q S c n l a w (i :: rs) := fun j hj => by
  rcases List.mem_cons.1 hj with rfl | hj
  · exact wpOp_step ho (fun K' hK => h K' (fun a w hS hW => hK a w ⟨hS, hW⟩))
  · exact hs j hj
theorem wpAnyU_ready {rs : List Nat} {n : Nat} {l : Array Bool} {a : Act} {w : World} (hr : Region.ready md ops l = rs) (hne : rs ≠ []) (h : AllReadyU P md ops Q S c n l a w rs) : wpAnyU P md ops Q S c (n + 1) l a w :=
  ⟨fun h0 => absurd (hr ▸ h0) hne, hr ▸ h⟩
theorem wp_region_until {id : Nat} {a : Act} {w : World} (c : Nat) (S : World → Prop) (hm : P.follows .mixedOrders = true) (h : wpAnyU P .any ops Q S c ops.size (Array.replicate ops.size false) a w.drew) : (Code.region id ops true).wp P Q a w :=
  wp_region_any hm (wpAny_of_until _ _ _ _ h)
/-- The world is put behind a letter. -/
theorem wpAnyU_letter {n : Nat} {l : Array Bool} {a : Act} {w : World} (R : World → Prop) (hR : R w) (h : ∀ w', R w' → wpAnyU P md ops Q S c n l a w') : wpAnyU P md ops Q S c n l a w := h w hR
end
end Go
