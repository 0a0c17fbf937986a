/-
  RoundNewest: promises told in any order: the ledger that is to be accepted is the newest one among them, with the command behind it.
-/
import Derived.Test.YtnlncfjibbdimaaDoorAlive13
import Derived.Test.YtnlncfjibbdimaaDoorSameL
import Derived.Test.YtnlncfjibbdimaaDoorAskM
import Derived.Deep.DeepCutAuto
namespace Go.Proofs.YtnlncfjibbdimaaDoor
open Go.RowKit
set_option linter.unusedSimpArgs false
set_option linter.unusedVariables false

theorem cnt_below (n : Nat) : ∀ k, k ≤ n → cnt n (fun j => decide (j < k)) = k
  | 0, _ => by
    have : cnt n (fun j => decide (j < 0)) = cnt n (fun _ => false) := cnt_congr fun i _ => by simp
    rw [this, cnt_zero]
  | k + 1, h => by
    have e : (fun j => decide (j < k + 1)) = upd (fun j => decide (j < k)) k true := by
      funext j
      unfold upd
      split
      · rename_i e; subst e; simp
      · rename_i e
        congr 1
        apply propext
        omega
    rw [e, cnt_upd (by omega) (by simp), cnt_below n k (by omega)]
theorem upd_below (k : Nat) : upd (fun j => decide (j < k)) k true = fun j => decide (j < k + 1) := by
  funext j
  unfold upd
  split
  · rename_i e; subst e; simp
  · rename_i e
    show decide (j < k) = decide (j < k + 1)
    congr 1
    apply propext
    omega

/-- The command that a promise tells. -/
def tag13 (i : Nat) (t : Int) : Cmd := ⟨10, 0, 0, 5 + i, ⟨#[]⟩, ⟨#[]⟩, 0, 0, 0, 0, 0, 0, 0, ⟨#[]⟩, 0, [], t, 0⟩
def Tagged13 (L : List Cmd) : Prop := L = [] ∨ ∃ i t, L = [tag13 i t]
theorem Tagged13.put {L : List Cmd} (h : Tagged13 L) : putL L mk1 = some (L ++ [mk1]) ∧ idxN (L ++ [mk1]) 0 0 0 = (L.length : Nat) ∧ L.length ≤ 1 := by
  rcases h with rfl | ⟨i, t, rfl⟩
  · exact ⟨mk1_put, mk1_idx, by simp⟩
  · have h0 : idB (tag13 i t) 0 0 0 = false := by
      unfold idB tag13 eq3
      simp
      omega
    have h1 : idxN [tag13 i t] 0 0 0 = -1 := by
      unfold idxN
      simp [List.findIdx?_cons, h0]
    have h2 : idB mk1 0 0 0 = true := by decide +kernel
    refine ⟨?_, ?_, by simp⟩
    · unfold putL
      have : idxN [tag13 i t] mk1.idn mk1.idb mk1.ids = -1 := h1
      rw [this, if_neg (by omega), if_neg (by simp)]
    · unfold idxN
      simp [List.findIdx?_cons, h0, h2]

/-- The round when k promises have been told. -/
def nwR (n k : Nat) (m : Bl) (L : List Cmd) : Rnd := if k < n / 2 + 1 then ⟨mk1, false, 1099511627776, 15, 1, m.1, m.2, L, 1⟩ else ⟨mk1, false, 1099511627776, 15, 2, m.1, m.2, L ++ [mk1], 1⟩
def nwF (n k : Nat) : Nat → Bool := if k < n / 2 + 1 then fun j => decide (j < k) else fun _ => false
theorem nw_half {n k : Nat} (hn : 0 < n) (hk : k < n / 2 + 1) : half n ≤ (cnt n (upd (nwF n k) k true) : Nat) ↔ ¬ k + 1 < n / 2 + 1 := by
  have e : half n = ((n / 2 + 1 : Nat) : Int) := by unfold half; rw [if_neg (by omega)]; omega
  unfold nwF
  rw [if_pos hk, upd_below, cnt_below n (k + 1) (by omega), e]
  omega
theorem nwF_step {n k : Nat} (hn : 0 < n) (hk : k < n / 2 + 1) : promF n (nwF n k) k = nwF n (k + 1) := by
  unfold promF
  by_cases h : k + 1 < n / 2 + 1
  · rw [if_neg (fun hc => (nw_half hn hk).1 hc h)]
    unfold nwF
    rw [if_pos hk, if_pos h, upd_below]
  · rw [if_pos ((nw_half hn hk).2 h)]
    unfold nwF
    rw [if_neg h]
theorem nwR_step {n k : Nat} (hn : 0 < n) (hk : k < n / 2 + 1) (m : Bl) (L : List Cmd) (hL : Tagged13 L) (x : Bl) (l : List Cmd) (hl : Tagged13 l) :
    (nwR n k m L).promised n (nwF n k) k x.1 x.2 l = nwR n (k + 1) (if ab x.1 x.2 m.1 m.2 = true then x else m) (if ab x.1 x.2 m.1 m.2 = true then l else L) := by
  have e1 : (nwR n k m L).newer x.1 x.2 l = ⟨mk1, false, 1099511627776, 15, 1, (if ab x.1 x.2 m.1 m.2 = true then x else m).1, (if ab x.1 x.2 m.1 m.2 = true then x else m).2, if ab x.1 x.2 m.1 m.2 = true then l else L, 1⟩ := by
    unfold nwR Rnd.newer
    rw [if_pos hk]
    split <;> rfl
  have hT : Tagged13 (if ab x.1 x.2 m.1 m.2 = true then l else L) := by split <;> assumption
  unfold Rnd.promised
  rw [e1]
  by_cases h : k + 1 < n / 2 + 1
  · rw [if_neg (fun hc => (nw_half hn hk).1 hc h)]
    unfold nwR
    rw [if_pos h]
  · rw [if_pos ((nw_half hn hk).2 h)]
    unfold nwR
    rw [if_neg h]
    unfold Rnd.tell
    rw [if_neg (fun h => by cases h)]
    simp only [hT.put.1]
theorem nwR_end {n k : Nat} (hk : ¬ k < n / 2 + 1) (m : Bl) (L : List Cmd) (hL : Tagged13 L) : (nwR n k m L).stage = 2 ∧ (nwR n k m L).tells = L ++ [mk1] ∧ (nwR n k m L).place = (L.length : Nat) + 1 := by
  unfold nwR
  rw [if_neg hk]
  refine ⟨rfl, rfl, ?_⟩
  unfold Rnd.place
  rw [if_pos (by rfl), if_neg (fun h => by cases h)]
  show idxN (L ++ [mk1]) 0 0 0 + 1 = _
  rw [hL.put.2.1]
theorem nwR_ask {n k : Nat} (hk : k < n / 2 + 1) (m : Bl) (L : List Cmd) : (nwR n k m L).stage = 1 ∧ (nwR n k m L).br = 1099511627776 ∧ (nwR n k m L).bn = 15 := by
  unfold nwR
  rw [if_pos hk]
  exact ⟨rfl, rfl, rfl⟩

theorem wpList_append_cmd13 {ops : Array Oper} {rest : List Oper} {o : Oper} {a : Act} {W : World} {Q : Exit → Act → World → Prop} (hgd : o.guard = none) (s x : Operand) (lo q n : Nat) (v : Value) (l : List Cmd) (c : Cmd) (ho : o.op = .call { callee := .builtin .append, args := #[s, x], argTypes := #[46, 46] }) (hty : o.type = 46)
    (hs : a.eval s = v) (hx : a.eval x = .slice (some ⟨q, 0, none⟩) 1 1) (hO : OwnLed W lo W.heap.size v l) (hlo : lo ≤ W.heap.size) (hB : Blk W q 81 (c.cells (.slice none 0 0)).toArray) (hp : c.parts = []) (hn : n = l.length) (hl : (n + 1) * 184 ≤ 140737488355328)
    (h : ∀ A' c' W', OwnLed W' lo W'.heap.size (.slice A' (n + 1) c') (l ++ [c]) → Below lo W W' → wpList Tryd.prog ops Q rest (a.put o.dst (.slice A' (n + 1) c')) W') : wpList Tryd.prog ops Q (o :: rest) a W :=
  wpList_plain hgd fun _ hK => wp_append_cmd s x lo q n v l c ho hty hs hx hO hlo hB hp hn hl (fun A' c' W' h1 h2 => hK _ _ (h A' c' W' h1 h2))

/-- A slice of ballots. -/
def BalsAt (w : World) (v : Value) (l : List Bl) : Prop :=
  ∃ A c, v = .slice A l.length c ∧ l.length ≤ c ∧ c ≤ maxLen ∧ ∀ i b, l[i]? = some b → ∃ q o, A = some ⟨q, o, none⟩ ∧ q < w.heap.size ∧ w.rangeAt q (o + i * 2) [.int .i64 b.1, .int .i64 b.2]

/-- Blocks from B to lo are written: the round's ledger lies behind them. -/
theorem RndAt.foreign {w w' : World} {B g ga n lo : Nat} {f : Nat → Bool} {r : Rnd} {pv lv : Value} {S : Nat → Prop} (h : RndAt w B g ga n f r pv lv) (hlo : B ≤ lo) (hl : LedAt w lo w.heap.size lv r.led) (F : Fr w.heap.size S w w') (hS : ∀ q, S q → B ≤ q ∧ q < lo) : RndAt w' B g ga n f r pv lv := by
  have h1 := h.hg
  have h2 := h.hga
  have h3 := h.hB
  refine ⟨h1, h2, h.ne, Nat.le_trans h3 F.size, h.row.fr F h.row.lt (fun e => by have := hS _ e; omega), h.ans.fr F h.ans.lt (fun e => by have := hS _ e; omega), ?_, (hl.fr F (Nat.le_refl _) (fun q q1 _ e => by have := hS _ e; omega)).wider hlo F.size, h.sz⟩
  obtain ⟨p0, q1, q2, q3⟩ := h.parts
  exact ⟨p0, q1, q2, q3.fr F (by omega) (fun k _ hk he => by have := hS _ he; omega)⟩
theorem LedAt.one14 {w : World} {lo q : Nat} {c : Cmd} (hB : Blk w q 81 (c.cells (.slice none 0 0)).toArray) (hlo : lo ≤ q) (hp : c.parts = []) : LedAt w lo (q + 1) (.slice (some ⟨q, 0, none⟩) 1 1) [c] :=
  ⟨_, 1, [c.cells (.slice none 0 0)], rfl, Nat.le_refl _, by simp [maxLen], by simp, ⟨by simp [Cmd.cells_length], fun _ => ⟨_, rfl, hlo, by simp, fun j u hu => by rw [Addr.add_mid]; exact hB.range j u (by simpa using hu)⟩⟩, rfl, fun i r d h1 h2 => by
    have hi : i = 0 := by
      have := (List.getElem?_eq_some_iff.1 h1).1
      simp at this
      omega
    subst hi
    simp at h1 h2
    subst h1 h2
    exact ⟨_, rfl, none, 0, by rw [hp]; rfl, by rw [hp]; exact Nat.le_refl _, by simp [maxLen], by rw [hp]; simp, by rw [hp]; exact Rd.none_⟩⟩
/-- What the law's loop keeps. -/
structure NwInv (w : World) (B g ga n k : Nat) (pv lv : Value) (nb : Nat) (m : Bl) (L : List Cmd) (wv : Value) (W : World) : Prop where
  rs : RS w B g ga n (nwF n k) (nwR n k m L) pv lv W
  b : Blk W B 23 #[.int .i64 1099511627776, .int .i64 15]
  new : Blk W nb 23 #[.int .i64 m.1, .int .i64 m.2]
  led : LedAt W (nb + 1) W.heap.size wv L
  lled : LedAt W (nb + 1) W.heap.size lv (nwR n k m L).led
  tag : Tagged13 L
  ord : B < nb ∧ g < B ∧ ga < B
section
variable {w W W' : World} {B g ga n k nb : Nat} {pv lv wv : Value} {m : Bl} {L : List Cmd}
theorem NwInv.below (h : NwInv w B g ga n k pv lv nb m L wv W) (b : Below W.heap.size W W') : NwInv w B g ga n k pv lv nb m L wv W' :=
  ⟨h.rs.below b, h.b.below b h.b.lt, h.new.below b h.new.lt, (h.led.fr (Fr.of_below b (fun _ => False)) (Nat.le_refl _) (fun _ _ _ h => h)).wider (Nat.le_refl _) b.size, (h.lled.fr (Fr.of_below b (fun _ => False)) (Nat.le_refl _) (fun _ _ _ h => h)).wider (Nat.le_refl _) b.size, h.tag, h.ord⟩
/-- A block laid since is written. -/
theorem NwInv.far (h : NwInv w B g ga n k pv lv nb m L wv W) {W1 : World} {xk : Nat} (b : Below W.heap.size W W1) (hx : W.heap.size ≤ xk) (f : Fr W1.heap.size (fun q => q = xk) W1 W') : NwInv w B g ga n k pv lv nb m L wv W' :=
  h.below (b.trans ((f.mono b.size (S' := fun _ => False) (fun q hq e => by omega)).below (fun _ _ h => h)))
theorem NwInv.place (h : NwInv w B g ga n k pv lv nb m L wv W) {lv' : Value} {l' : List Cmd} (hlv : (lv' = lv ∧ l' = (nwR n k m L).led) ∨ OwnLed W' W.heap.size W'.heap.size lv' l') (f : Fr W.heap.size (fun q => q = g ∨ q = ga) W W') : LedAt W' (nb + 1) W'.heap.size lv' l' := by
  obtain ⟨o1, o2, o3⟩ := h.ord
  rcases hlv with ⟨rfl, rfl⟩ | ho
  · exact (h.lled.fr f (Nat.le_refl _) (fun q q1 _ e => by omega)).wider (Nat.le_refl _) f.size
  · exact ho.at_.wider (by have := h.new.lt; omega) (Nat.le_refl _)
/-- A promise is told that is no newer. -/
theorem NwInv.old (h : NwInv w B g ga n k pv lv nb m L wv W) (hn : 0 < n) (hk : k < n / 2 + 1) {x : Bl} {l : List Cmd} (hl : Tagged13 l) {lv' : Value} (R : RS w B g ga n (promF n (nwF n k) k) ((nwR n k m L).promised n (nwF n k) k x.1 x.2 l) pv lv' W') (hlv : (lv' = lv ∧ ((nwR n k m L).promised n (nwF n k) k x.1 x.2 l).led = (nwR n k m L).led) ∨ OwnLed W' W.heap.size W'.heap.size lv' ((nwR n k m L).promised n (nwF n k) k x.1 x.2 l).led) (f : Fr W.heap.size (fun q => q = g ∨ q = ga) W W') (hab : ab x.1 x.2 m.1 m.2 = false) :
    NwInv w B g ga n (k + 1) pv lv' nb m L wv W' := by
  obtain ⟨o1, o2, o3⟩ := h.ord
  have hp := h.place hlv f
  rw [nwR_step hn hk m L h.tag x l hl, hab] at hp
  rw [nwF_step hn hk, nwR_step hn hk m L h.tag x l hl, hab] at R
  exact ⟨R, h.b.fr f h.b.lt (by omega), h.new.fr f h.new.lt (by omega), (h.led.fr f (Nat.le_refl _) (fun q q1 _ e => by omega)).wider (Nat.le_refl _) f.size, hp, h.tag, h.ord⟩
/-- .. that is newer: the newest is stored. -/
theorem NwInv.newer (h : NwInv w B g ga n k pv lv nb m L wv W) (hn : 0 < n) (hk : k < n / 2 + 1) {x : Bl} {l : List Cmd} (hl : Tagged13 l) {lv' wv' : Value} (R : RS w B g ga n (promF n (nwF n k) k) ((nwR n k m L).promised n (nwF n k) k x.1 x.2 l) pv lv' W') (hlv : (lv' = lv ∧ ((nwR n k m L).promised n (nwF n k) k x.1 x.2 l).led = (nwR n k m L).led) ∨ OwnLed W' W.heap.size W'.heap.size lv' ((nwR n k m L).promised n (nwF n k) k x.1 x.2 l).led) (f : Fr W.heap.size (fun q => q = g ∨ q = ga) W W') (hab : ab x.1 x.2 m.1 m.2 = true)
    (hL : LedAt W (nb + 1) W.heap.size wv' l) : NwInv w B g ga n (k + 1) pv lv' nb x l wv' ((W'.setCell ⟨nb, 0, none⟩ (.int .i64 x.1)).setCell ⟨nb, 1, none⟩ (.int .i64 x.2)) := by
  obtain ⟨o1, o2, o3⟩ := h.ord
  have hp := h.place hlv f
  rw [nwR_step hn hk m L h.tag x l hl, hab] at hp
  rw [nwF_step hn hk, nwR_step hn hk m L h.tag x l hl, hab] at R
  have f2 : Fr W'.heap.size (fun q => q = nb) W' ((W'.setCell ⟨nb, 0, none⟩ (.int .i64 x.1)).setCell ⟨nb, 1, none⟩ (.int .i64 x.2)) := ((Fr.refl W'.heap.size (fun q => q = nb) W').setCell (p := ⟨nb, 0, none⟩) (.inl rfl) _).setCell (p := ⟨nb, 1, none⟩) (.inl rfl) _
  have hnw := h.new.lt
  have hs := f.size
  have hw := R.bel.size
  have hlo := h.rs.lo
  have hB := h.rs.at_.hB
  have hnew' := h.new.fr f hnw (by omega)
  have hR : RndAt ((W'.setCell ⟨nb, 0, none⟩ (.int .i64 x.1)).setCell ⟨nb, 1, none⟩ (.int .i64 x.2)) B g ga n (nwF n (k + 1)) (nwR n (k + 1) x l) pv lv' := by
    exact R.at_.foreign (lo := nb + 1) (by omega) hp f2 (fun q e => by omega)
  refine ⟨⟨hR, R.bel.trans ((f2.mono hw (S' := fun _ => False) (fun q hq e => by omega)).below (fun _ _ h => h)), h.rs.lo, hn⟩, (h.b.fr f h.b.lt (by omega)).fr f2 (by have := h.b.lt; omega) (by omega), ?_, ?_, ?_, hl, h.ord⟩
  · have := (hnew'.set_ 0 (.int .i64 x.1)).set_ 1 (.int .i64 x.2)
    exact this
  · exact ((hL.fr f (Nat.le_refl _) (fun q q1 _ e => by omega)).fr f2 hs (fun q q1 _ e => by omega)).wider (Nat.le_refl _) (by simp; omega)
  · exact (hp.fr f2 (Nat.le_refl _) (fun q q1 _ e => by omega)).wider (Nat.le_refl _) f2.size
end

set_option maxRecDepth 100000 in
set_option maxHeartbeats 3200000 in
theorem roundNewest_any (w : World) (A : Nat → Addr) (hE : E13 w A) (nodes : Int) (tv gv : Value) (told : List Bl) (tags : List Int) (hT : BalsAt w tv told) (hG : IntsAt w 0 w.heap.size gv tags) :
    Calls Tryd.prog 10 #[.int .i64 nodes, tv, gv] w fun e w' => e = .returned (.bool true) ∧ Below w.heap.size w w' := by
  obtain ⟨Ta, tc, rfl, ht1, ht2, ht3⟩ := hT
  obtain ⟨Ga, gc, rfl, hg1, hg2, _, hg3⟩ := hG
  obtain ⟨nt, hnt⟩ : ∃ nt, nt = told.length := ⟨_, rfl⟩
  obtain ⟨ng, hng⟩ : ∃ ng, ng = tags.length := ⟨_, rfl⟩
  rw [← hnt] at ht1 ⊢
  rw [← hng] at hg1 hg3 ⊢
  have hnt63 : nt ≤ 9223372036854775807 := by simp only [maxLen] at ht2; omega
  have hng63 : ng ≤ 9223372036854775807 := by simp only [maxLen] at hg2; omega
  have HT := Lib.hid (And.intro ht3 (And.intro hnt (And.intro hg3 hng)))
  clear ht1 ht2 ht3 hg1 hg2 hg3 hnt hng
  have k52 := alive13_any w A hE
  obtain ⟨j, hj, hwj⟩ := whichN nodes (n := 7) (by omega) (by omega)
  have hwj' : (wrap64 (nodes.tmod 7 + 7)).tmod 7 = (j : Int) := hwj
  clear hwj
  obtain ⟨n, hn⟩ : ∃ n, n = j + 1 := ⟨_, rfl⟩
  have hw1 : wrap64 ((j : Int) + 1) = (n : Int) := by unfold wrap64; omega
  have hn7 : 0 < n ∧ n ≤ 7 := by omega
  have HK := Lib.hid (And.intro k52 hE)
  clear k52 hE hn hj
  go_enter Tryd.func10, Tryd.ntmps10
  have HN := Lib.hid hn7
  go_upto_region 4 with (first
    | (go_at_call 52; refine HK.out.1.mono ?_; rintro e w1 ⟨rfl, b1⟩; have H1 := Lib.hid b1; clear b1)
    | fail)
  rw [hw1]
  have k54 := make1_any w1
  have k53 : ∀ W, Below w1.heap.size w1 W → Calls Tryd.prog 53 #[.int .i64 n, .agg (mk1.cells (.slice none 0 0)).toArray, .bool false] W (New13Post n mk1 false W) := fun W b =>
    new13_cmd W n mk1 mk1_sized (.slice none 0 0) 0 0 ⟨none, 0, rfl, Nat.le_refl _, by simp [maxLen], by simp [mk1], by simp [mk1, ints], fun h => by simp [mk1] at h⟩ (Nat.zero_le _) ⟨by omega, by omega⟩ (A 1) (((HK.out.2.below H1.out).below b) 1 (by simp)) mk1_chk
  have HM := Lib.hid (And.intro k54 k53)
  clear k54 k53 hwj' hw1
  go_upto_region 5 with (first
    | (go_at_call 54; refine HM.out.1.mono ?_; rintro e w2 ⟨rfl, b2⟩; have H2 := Lib.hid b2; clear b2)
    | (go_at_call 53
       refine (HM.out.2 w2 H2.out).mono ?_
       rintro e w3 h3
       have hb2 := H1.out.trans (H2.out.mono H1.out.size)
       obtain ⟨ga, pv, rfl, R3, b3⟩ := RS.of_new hb2 HN.out.1 h3
       have H3 := Lib.hid R3
       clear hb2 R3 b3 h3)
    | fail)
  go_upto_region 6 with (fail)
  have R3 := H3.out
  refine wp_letter (fun W => RS w w3.heap.size (ga + 1) ga n (fun _ => false) r0 pv (.slice none 0 0) W ∧ Blk W w3.heap.size 23 #[.int .i64 1099511627776, .int .i64 15] ∧ w3.heap.size < W.heap.size)
    ⟨R3.below ((Below.refl _ _).alloc (Nat.le_refl _) _), Blk.new w3 23 _, by simp⟩ ?_
  clear R3
  rintro W4 ⟨R4, XB4, hs4⟩
  obtain ⟨B, hB⟩ : ∃ B, B = w3.heap.size := ⟨_, rfl⟩
  rw [← hB] at R4 XB4 hs4
  rw [← hB]
  have hgaB : ga + 1 < B := R4.at_.hg
  clear hB H3 H2 H1 HM
  obtain ⟨g, hg⟩ : ∃ g, g = ga + 1 := ⟨_, rfl⟩
  rw [← hg] at R4 hgaB ⊢
  have hgg : ga < B := by omega
  clear hg
  have x0 := XB4.cell 0
  have x1 := XB4.cell 1
  have k55 := R4.begin_ HK.out.2 (br := 1099511627776) (bn := 15) (by decide) (by decide) (by decide)
  have H4 := Lib.hid (And.intro k55 (And.intro XB4 hs4))
  clear k55 XB4 hs4 R4
  go_upto_region 8 with (first
    | (go_at_call 55
       refine H4.out.1.mono ?_
       rintro e W5 ⟨rfl, R5, F5⟩
       have XB5 := H4.out.2.1.fr F5 H4.out.2.1.lt (by omega)
       have H5 := Lib.hid (And.intro R5 (And.intro XB5 F5.size))
       clear R5 F5 XB5)
    | fail)
  clear x0 x1
  go_upto_region 10 with (fail)
  have R5 := H5.out.1
  have eqR : ({ r0 with br := 1099511627776, bn := 15, stage := 1, nr := 0, nn := 0, led := [], begun := wrap64 (r0.begun + 1) } : Rnd) = nwR n 0 (0, 0) [] := by
    unfold nwR
    rw [if_pos (by omega)]
    show (⟨mk1, false, 1099511627776, 15, 1, 0, 0, [], wrap64 ((0 : Int) + 1)⟩ : Rnd) = _
    rw [one_wrap]
  have eqF : (fun _ : Nat => false) = nwF n 0 := by
    unfold nwF
    rw [if_pos (by omega)]
    funext j
    simp
  rw [eqR, eqF] at R5
  have bb : Below W5.heap.size W5 ((W5.alloc (.cells #[.int .i64 0, .int .i64 0] 23)).alloc (.cells #[] 81)) := ((Below.refl _ _).alloc (Nat.le_refl _) _).alloc (by simp) _
  have hBlt := H4.out.2.2
  have hI0 : NwInv w B g ga n 0 pv (.slice none 0 0) W5.heap.size (0, 0) [] (.slice (some ⟨W5.heap.size + 1, 0, none⟩) 0 0) ((W5.alloc (.cells #[.int .i64 0, .int .i64 0] 23)).alloc (.cells #[] 81)) := by
    refine ⟨R5.below bb, H5.out.2.1.below bb H5.out.2.1.lt, (Blk.new W5 23 _).alloc _, ⟨_, 0, [], rfl, Nat.le_refl _, by simp [maxLen], by simp, ⟨by simp, fun h => absurd h (by simp)⟩, rfl, fun i r c h => by simp at h⟩, ?_, .inl rfl, by have := H5.out.2.2; omega⟩
    have : (nwR n 0 (0, 0) []).led = [] := by rw [← eqR]
    rw [this]
    exact ⟨none, 0, [], rfl, Nat.le_refl _, by simp [maxLen], by simp, ⟨by simp, fun h => absurd h (by simp)⟩, rfl, fun i r c h => by simp at h⟩
  obtain ⟨nb, hnb⟩ : ∃ nb, nb = W5.heap.size := ⟨_, rfl⟩
  rw [← hnb] at hI0
  refine wp_letter (fun W => Hid (NwInv w B g ga n 0 pv (.slice none 0 0) nb (0, 0) [] (.slice (some ⟨nb + 1, 0, none⟩) 0 0) W)) (Lib.hid hI0) ?_
  rw [← hnb]
  clear R5 eqR eqF bb hI0 H4 H5 hnb hBlt
  rintro W6 HI0
  have k25 := half_any n (by omega)
  have eh : half n = ((n / 2 + 1 : Nat) : Int) := by unfold half; rw [if_neg (by omega)]; omega
  rw [eh] at k25
  obtain ⟨hf, hhf⟩ : ∃ hf, hf = n / 2 + 1 := ⟨_, rfl⟩
  rw [← hhf] at k25
  have K25 := Lib.hid k25
  have hhf4 : hf ≤ 4 := by omega
  clear k25 eh
  go_wp2_with (fail)
  go_loopw [11, 12] (fun wv i wr => ∃ (k : Nat) (m : Bl) (L : List Cmd) (lv : Value), k ≤ hf ∧ i = .int .i64 k ∧ (∃ Aw kw cw, wv = .slice Aw kw cw) ∧ Hid (NwInv w B g ga n k pv lv nb m L wv wr)) (fun _ i _ => hf - (intOf i).toNat)
  case atStart => exact ⟨0, (0, 0), [], _, Nat.zero_le _, rfl, ⟨_, _, _, rfl⟩, HI0⟩
  case round =>
    obtain ⟨k, m, L, lv, hk, rfl, ⟨Aw, kw, cw, rfl⟩, HI⟩ := hrel
    by_cases hlt : (k : Int) < hf
    · have hkn : k < n / 2 + 1 := by omega
      have k56 : ∀ W, Below wr.heap.size wr W → Calls Tryd.prog 56 #[.pointer (some ⟨g, 0, none⟩)] W fun e w' => e = .returned (.int .i64 1) ∧ Below W.heap.size W w' := fun W b => by
        have := (HI.out.rs.below b).stage
        rw [(nwR_ask hkn m L).1] at this
        exact this
      have H56 := Lib.hid (And.intro k56 hkn)
      clear k56 hkn
      go_upto_region 17 with (first
        | (go_at_call 25; refine (K25.out _).mono ?_; rintro e w2 ⟨rfl, rfl⟩)
        | (go_at_call 56; refine (H56.out.1 _ (Below.refl _ _)).mono ?_; rintro e W7 ⟨rfl, b7⟩; have H7 := Lib.hid b7; clear b7)
        | fail)
      have bx : Below W7.heap.size W7 ((W7.alloc (.cells #[.int .i64 0, .int .i64 0] 23)).alloc (.cells #[] 81)) := ((Below.refl _ _).alloc (Nat.le_refl _) _).alloc (by simp) _
      refine wp_letter (fun W => NwInv w B g ga n k pv lv nb m L (.slice Aw kw cw) W ∧ Blk W W7.heap.size 23 #[.int .i64 0, .int .i64 0] ∧ W7.heap.size + 2 ≤ W.heap.size ∧ wr.heap.size ≤ W7.heap.size ∧ LedAt W (nb + 1) W7.heap.size (.slice Aw kw cw) L ∧ Below wr.heap.size wr W)
        ⟨(HI.out.below H7.out).below bx, (Blk.new W7 23 _).alloc _, by simp, H7.out.size, (HI.out.below H7.out).led.fr (Fr.of_below bx (fun _ => False)) (Nat.le_refl _) (fun _ _ _ h => h), H7.out.trans (bx.mono H7.out.size)⟩ ?_
      clear bx
      obtain ⟨xk, hxk⟩ : ∃ xk, xk = W7.heap.size := ⟨_, rfl⟩
      rw [← hxk]
      clear hxk H7
      rintro W8 ⟨I8, X8, hs8, hx8, L8, b8⟩
      have H8 := Lib.hid (And.intro I8 (And.intro X8 (And.intro hs8 (And.intro hx8 (And.intro L8 b8)))))
      clear I8 X8 hs8 hx8 L8 b8
      obtain ⟨d, hd⟩ : ∃ d, d = (decide (k < nt) && decide (k < ng) && (match told[k]? with | some b => lg b.1 b.2 | none => false)) := ⟨_, rfl⟩
      have HD := Lib.hid hd
      clear hd
      have hcells : ∀ b, told[k]? = some b → ∃ q o, Ta = some ⟨q, o, none⟩ ∧ ∀ W', Below w.heap.size w W' → W'.cell? ⟨q, o + k * 2, none⟩ = some (.int .i64 b.1) ∧ W'.cell? ⟨q, o + k * 2 + 1, none⟩ = some (.int .i64 b.2) := fun b hb => by
        obtain ⟨q, o, rfl, hq, hr⟩ := HT.out.1 k b hb
        exact ⟨q, o, rfl, fun W' bw => ⟨(bw.cell (p := ⟨q, o + k * 2, none⟩) hq).trans (by have := hr 0 _ rfl; simpa using this), (bw.cell (p := ⟨q, o + k * 2 + 1, none⟩) hq).trans (by have := hr 1 _ rfl; simpa using this)⟩⟩
      have HCE := Lib.hid hcells
      clear hcells
      go_cut [70] (fun v70 wx => v70 = .bool d ∧ Below W8.heap.size W8 wx)
      case first =>
        by_cases c1 : (k : Int) < nt
        · by_cases c2 : (k : Int) < ng
          · obtain ⟨b, hb⟩ : ∃ b, told[k]? = some b := ⟨_, List.getElem?_eq_getElem (by have := HT.out.2.1; omega)⟩
            obtain ⟨q, o, hTa, hq⟩ := HCE.out b hb
            subst hTa
            obtain ⟨q0, q1⟩ := hq W8 H8.out.1.rs.bel
            have hdd : d = lg b.1 b.2 := by rw [HD.out, hb]; simp; omega
            have k57 := rlegal_any b.1 b.2
            have HL := Lib.hid (And.intro k57 hdd)
            clear k57 hdd hb hq
            have hb2 : k * 2 + 1 < 18446744073709551616 := by omega
            go_wp2_with (first | (go_at_call 57; refine (HL.out.1 _).mono ?_; rintro e W9 ⟨rfl, b9⟩; have H9 := Lib.hid b9; clear b9) | fail)
            go_meet
            exact ⟨by rw [HL.out.2], H9.out⟩
          · have hdd : d = false := by rw [HD.out]; simp; omega
            have HL := Lib.hid hdd
            clear hdd
            go_wp2_with (fail)
            go_meet
            exact ⟨by rw [HL.out], Below.refl _ _⟩
        · have hdd : d = false := by rw [HD.out]; simp; omega
          have HL := Lib.hid hdd
          clear hdd
          go_wp2_with (fail)
          go_meet
          exact ⟨by rw [HL.out], Below.refl _ _⟩
      case rest =>
        obtain ⟨rfl, b9⟩ := hcut
        have I9 := H8.out.1.below b9
        have X9 := H8.out.2.1.below b9 H8.out.2.1.lt
        have L9 := H8.out.2.2.2.2.1.fr (Fr.of_below b9 (fun _ => False)) (by have := H8.out.2.2.1; omega) (fun _ _ _ h => h)
        have H9 := Lib.hid (And.intro I9 (And.intro X9 (And.intro L9 (And.intro b9.size b9))))
        clear I9 X9 L9 b9
        go_upto_if 70 with (fail)
        go_cut [14] (fun v14 wx => ∃ (x : Bl) (l : List Cmd) (Al : Option Addr) (kl cl : Nat), v14 = .slice Al kl cl ∧ Tagged13 l ∧ Blk wx xk 23 #[.int .i64 x.1, .int .i64 x.2] ∧ LedAt wx (xk + 1) wx.heap.size (.slice Al kl cl) l ∧ NwInv w B g ga n k pv lv nb m L (.slice Aw kw cw) wx)
        case first =>
          cases hdc : d with
          | false =>
            clear hdc
            go_wp2_with (fail)
            go_meet
            exact ⟨(0, 0), [], _, _, _, rfl, .inl rfl, H9.out.2.1, ⟨_, 0, [], rfl, Nat.le_refl _, by simp [maxLen], by simp, ⟨by simp, fun h => absurd h (by simp)⟩, rfl, fun i r c h => by simp at h⟩, H9.out.1⟩
          | true =>
            obtain ⟨c1, c2, b, hb⟩ : k < nt ∧ k < ng ∧ ∃ b, told[k]? = some b := by
              have h := HD.out
              rw [hdc] at h
              have h' := h.symm
              simp only [Bool.and_eq_true, decide_eq_true_eq] at h'
              exact ⟨h'.1.1, h'.1.2, _, List.getElem?_eq_getElem (by have := HT.out.2.1; omega)⟩
            obtain ⟨q, o, hTa, hq⟩ := HCE.out b hb
            subst hTa
            obtain ⟨q0, q1⟩ := hq wc H9.out.1.rs.bel
            obtain ⟨t, ht⟩ : ∃ t, tags[k]? = some t := ⟨_, List.getElem?_eq_getElem (by have := HT.out.2.2.2; omega)⟩
            obtain ⟨tb, tq, hGa, hu1, hu2, hu3⟩ := ints_cell HT.out.2.2.1 ht
            subst hGa
            have hx0 : wc.cell? ⟨xk, 0, none⟩ = some (.int .i64 0) := H9.out.2.1.cell 0
            have hx1 : wc.cell? ⟨xk, 1, none⟩ = some (.int .i64 0) := H9.out.2.1.cell 1
            have hz0 := H9.out.2.1.frozen 0
            have hz1 := H9.out.2.1.frozen 1
            have hwx : w.heap.size ≤ xk := Nat.le_trans (HI.out.rs.bel.size) H8.out.2.2.2.1
            have hne1 : ¬ tb = xk := by omega
            have hne2 : ¬ xk = tb := by omega
            have hu4 : wc.cell? ⟨tb, tq + k, none⟩ = some (.int .i64 t) := (H9.out.1.rs.bel.cell (p := ⟨tb, tq + k, none⟩) hu2).trans hu3
            have c1' : (k : Int) < nt := by omega
            have c2' : (k : Int) < ng := by omega
            have HB := Lib.hid (And.intro hb (And.intro ht hwx))
            clear hb ht hq hu3 hdc c1 c2
            go_upto_region 19 with (fail)
            have hwr2 : IntKind.i64.wrap (5 + (k : Int)) = 5 + (k : Int) := by rw [IntKind.wrap_i64]; omega
            obtain ⟨i1, z1, hi1, hz11, hz12, hz13, hz14⟩ := cmd_info'
            go_wp2_with (first
              | ((with_reducible refine law_buildSlice1 46 81 (.tmp 82) i1 z1 ((tag13 k t).cells (.slice none 0 0)).toArray 18 ?_ Tryd.underlying46 hi1 hz11 hz12 hz14 ?_ (by decide) (by decide) ?_); rfl; rfl)
              | fail)
            go_meet
            have f2 : Fr wc.heap.size (fun z => z = xk) wc ((wc.setCell ⟨xk, 0, none⟩ (.int .i64 b.1)).setCell ⟨xk, 1, none⟩ (.int .i64 b.2)) := ((Fr.refl wc.heap.size (fun z => z = xk) wc).setCell (p := ⟨xk, 0, none⟩) (.inl rfl) _).setCell (p := ⟨xk, 1, none⟩) (.inl rfl) _
            have f3 := f2.alloc (by simp) (.cells ((tag13 k t).cells (.slice none 0 0)).toArray 81)
            have hxw := H9.out.2.1.lt
            have hB81 := Blk.new ((wc.setCell ⟨xk, 0, none⟩ (.int .i64 b.1)).setCell ⟨xk, 1, none⟩ (.int .i64 b.2)) 81 ((tag13 k t).cells (.slice none 0 0)).toArray
            have e81 : ((wc.setCell ⟨xk, 0, none⟩ (.int .i64 b.1)).setCell ⟨xk, 1, none⟩ (.int .i64 b.2)).heap.size = wc.heap.size := by simp
            have hl81 : LedAt (((wc.setCell ⟨xk, 0, none⟩ (.int .i64 b.1)).setCell ⟨xk, 1, none⟩ (.int .i64 b.2)).alloc (.cells ((tag13 k t).cells (.slice none 0 0)).toArray 81)) (xk + 1) (((wc.setCell ⟨xk, 0, none⟩ (.int .i64 b.1)).setCell ⟨xk, 1, none⟩ (.int .i64 b.2)).alloc (.cells ((tag13 k t).cells (.slice none 0 0)).toArray 81)).heap.size (.slice (some ⟨wc.heap.size, 0, none⟩) 1 1) [tag13 k t] := by
              have h := LedAt.one14 (lo := xk + 1) hB81 (by rw [e81]; omega) rfl
              rw [e81] at h
              exact h.wider (Nat.le_refl _) (by simp)
            refine ⟨b, [tag13 k t], _, 1, 1, rfl, .inr ⟨k, t, rfl⟩, ((H9.out.2.1.set_ 0 (.int .i64 b.1)).set_ 1 (.int .i64 b.2)).alloc _, hl81, HI.out.far (H8.out.2.2.2.2.2.trans (H9.out.2.2.2.2.mono H8.out.2.2.2.2.2.size)) H8.out.2.2.2.1 f3⟩
        case rest =>
          obtain ⟨x, l, Al, kl, cl, rfl, hl, X10, L10, I10⟩ := hcut
          have x0 : wc.cell? ⟨xk, 0, none⟩ = some (.int .i64 x.1) := X10.cell 0
          have x1 : wc.cell? ⟨xk, 1, none⟩ = some (.int .i64 x.2) := X10.cell 1
          have y0 := I10.b.cell 0
          have y1 := I10.b.cell 1
          have hgb := I10.ord
          have k58 := I10.rs.promise_yes HK.out.2 (j := k) (br := 1099511627776) (bn := 15) (ar := x.1) (an := x.2) L10 (Nat.le_refl _) (.inl (by have := H8.out.2.2.2.1; have := HI.out.new.lt; omega)) (nwR_ask H56.out.2 m L).1 ⟨(nwR_ask H56.out.2 m L).2.1.symm, (nwR_ask H56.out.2 m L).2.2.symm⟩ (by have := H56.out.2; omega) (by unfold nwF; rw [if_pos H56.out.2]; simp)
          have hxnb : xk ≠ nb := by have := H8.out.2.2.2.1; have := HI.out.new.lt; omega
          have H10 := Lib.hid (And.intro k58 (And.intro X10 (And.intro L10 (And.intro I10 (And.intro hl hgb)))))
          clear k58 X10 L10 I10 hl hgb
          go_upto_region 22 with (first
            | (go_at_call 58
               refine H10.out.1.mono ?_
               rintro e W11 ⟨rfl, lv', R11, F11, hlv⟩
               have H11 := Lib.hid (And.intro R11 (And.intro F11 hlv))
               clear R11 F11 hlv)
            | fail)
          have X11 := H10.out.2.1.fr H11.out.2.1 H10.out.2.1.lt (by have := H10.out.2.2.2.2.2; have := H8.out.2.2.2.1; have := HI.out.new.lt; omega)
          have N11 := H10.out.2.2.2.1.new.fr H11.out.2.1 H10.out.2.2.2.1.new.lt (by have := H10.out.2.2.2.2.2; omega)
          have e0 : W11.cell? ⟨xk, 0, none⟩ = some (.int .i64 x.1) := X11.cell 0
          have e1 : W11.cell? ⟨xk, 1, none⟩ = some (.int .i64 x.2) := X11.cell 1
          have m0 : W11.cell? ⟨nb, 0, none⟩ = some (.int .i64 m.1) := N11.cell 0
          have m1 : W11.cell? ⟨nb, 1, none⟩ = some (.int .i64 m.2) := N11.cell 1
          clear x0 x1 y0 y1
          have k24 := rabove_any x.1 x.2 m.1 m.2
          cases hab : ab x.1 x.2 m.1 m.2 with
          | false =>
            rw [hab] at k24
            have HA := Lib.hid (And.intro k24 hab)
            clear k24 hab
            go_wp2_with (first
              | (go_at_call 24
                 refine (HA.out.1 _).mono ?_
                 rintro e W12 ⟨rfl, b12⟩
                 have H12 := Lib.hid b12
                 clear b12)
              | fail)
            go_roundw
            case rel =>
              have I11 := H10.out.2.2.2.1.old HN.out.1 H56.out.2 H10.out.2.2.2.2.1 H11.out.1 H11.out.2.2 H11.out.2.1 HA.out.2
              exact ⟨k + 1, m, L, lv', by omega, by go_num, ⟨_, _, _, rfl⟩, Lib.hid (I11.below H12.out)⟩
            case measure => simp [intOf]; omega
          | true =>
            rw [hab] at k24
            have HA := Lib.hid (And.intro k24 (And.intro hab (And.intro X11 N11)))
            clear k24 hab X11 N11
            go_upto_region 23 with (first
              | (go_at_call 24
                 refine (HA.out.1 _).mono ?_
                 rintro e W12 ⟨rfl, b12⟩
                 have X12 := HA.out.2.2.1.below b12 HA.out.2.2.1.lt
                 have N12 := HA.out.2.2.2.below b12 HA.out.2.2.2.lt
                 have i0 : W12.cell? ⟨xk, 0, none⟩ = some (.int .i64 x.1) := X12.cell 0
                 have i1 : W12.cell? ⟨xk, 1, none⟩ = some (.int .i64 x.2) := X12.cell 1
                 have n0 : W12.cell? ⟨nb, 0, none⟩ = some (.int .i64 m.1) := N12.cell 0
                 have n1 : W12.cell? ⟨nb, 1, none⟩ = some (.int .i64 m.2) := N12.cell 1
                 have fz0 := N12.frozen 0
                 have fz1 := N12.frozen 1
                 have H12 := Lib.hid b12
                 clear b12 X12 N12)
              | fail)
            clear e0 e1 m0 m1
            go_wp2_with (fail)
            go_roundw
            case rel =>
              have f12 := H11.out.2.1.trans ((Fr.of_below H12.out (fun q => q = g ∨ q = ga)).mono H11.out.2.1.size (fun _ _ h => h))
              have hlv := H11.out.2.2
              have R12 := H11.out.1.below H12.out
              have hlv' : (lv' = lv ∧ ((nwR n k m L).promised n (nwF n k) k x.1 x.2 l).led = (nwR n k m L).led) ∨ OwnLed W12 wc.heap.size W12.heap.size lv' ((nwR n k m L).promised n (nwF n k) k x.1 x.2 l).led := by
                rcases hlv with h | h
                · exact .inl h
                · exact .inr ((h.fr (Fr.of_below H12.out (fun _ => False)) (Nat.le_refl _) (fun _ _ _ h => h)).wider (Nat.le_refl _) H12.out.size)
              have I12 := H10.out.2.2.2.1.newer HN.out.1 H56.out.2 H10.out.2.2.2.2.1 R12 hlv' f12 HA.out.2.1 (H10.out.2.2.1.wider (by have := H8.out.2.2.2.1; have := HI.out.new.lt; omega) (Nat.le_refl _))
              exact ⟨k + 1, x, l, lv', by omega, by go_num, ⟨_, _, _, rfl⟩, Lib.hid I12⟩
            case measure => simp [intOf]; omega
    · have hkn : ¬ k < n / 2 + 1 := by omega
      obtain ⟨e1, e2, e3⟩ := nwR_end hkn m L HI.out.tag
      obtain ⟨nl, hnl⟩ : ∃ nl, nl = L.length := ⟨_, rfl⟩
      have hl1 := HI.out.tag.put.2.2
      have hled := HI.out.led
      have hkw : kw = L.length := by
        obtain ⟨_, _, hq, _⟩ := hled.form
        injection hq
      rw [hkw, ← hnl] at hled
      rw [← hnl] at hkw hl1 e3
      subst hkw
      have k42 := rcopy_any wr _ _ _ L hled (Nat.le_refl _)
      obtain ⟨i1, z1, hi1, hz11, hz12, hz13, hz14⟩ := cmd_info'
      have H1 := Lib.hid (And.intro k42 (And.intro e1 (And.intro e2 (And.intro e3 (And.intro hnl HI.out.rs)))))
      have hnl1 : kw ≤ 1 := hl1
      clear k42 e1 e2 e3 hled hkn hl1 HI hnl
      go_upto_region 25 with (first
        | (go_at_call 25; refine (K25.out _).mono ?_; rintro e w2 ⟨rfl, rfl⟩)
        | (go_at_call 42
           refine H1.out.1.mono ?_
           rintro e w3 ⟨v3, rfl, o3, b3⟩
           obtain ⟨A3, c3, hv3, _⟩ := o3.at_.form
           rw [← H1.out.2.2.2.2.1] at hv3
           subst hv3
           have H3 := Lib.hid (And.intro o3 b3)
           clear o3 b3)
        | (go_at_call 54
           refine (make1_any w3).mono ?_
           rintro e w4 ⟨rfl, b4⟩
           have H4 := Lib.hid b4
           clear b4)
        | ((with_reducible refine law_buildSlice1 46 81 (.tmp 98) i1 z1 (mk1.cells (.slice none 0 0)).toArray 18 ?_ Tryd.underlying46 hi1 hz11 hz12 hz14 ?_ (by decide) (by decide) ?_); rfl; rfl)
        | (at_builtin
           refine wpList_append_cmd13 rfl (.tmp 97) (.tmp 99) wr.heap.size w4.heap.size kw (.slice A3 kw c3) L mk1 rfl rfl rfl rfl ?_ ?_ (Blk.new w4 81 _) rfl H1.out.2.2.2.2.1 (by omega) ?_
           rotate_right
           intro A5 c5 W5' o5 b5)
        | fail)
      · have hbw : Below wr.heap.size wr (w4.alloc (.cells (mk1.cells (.slice none 0 0)).toArray 81)) := (H3.out.2.trans (H4.out.mono H3.out.2.size)).alloc (H3.out.2.trans (H4.out.mono H3.out.2.size)).size _
        have hb5 := hbw.trans b5
        have R5 := H1.out.2.2.2.2.2.below hb5
        have k56 : Calls Tryd.prog 56 #[.pointer (some ⟨g, 0, none⟩)] W5' fun e w' => e = .returned (.int .i64 2) ∧ Below W5'.heap.size W5' w' := by
          have := R5.stage
          rw [H1.out.2.1] at this
          exact this
        have k60 : ∀ W, Below W5'.heap.size W5' W → Calls Tryd.prog 60 #[.pointer (some ⟨g, 0, none⟩)] W fun e w' => ∃ v, e = .returned v ∧ OwnLed w' W.heap.size w'.heap.size v (L ++ [mk1]) ∧ Below W.heap.size W w' := fun W b => by
          have := (R5.below b).ledger
          rw [H1.out.2.2.1] at this
          exact this
        have k61 : ∀ W, Below W5'.heap.size W5' W → Calls Tryd.prog 61 #[.pointer (some ⟨g, 0, none⟩)] W fun e w' => e = .returned (.int .i64 ((kw : Int) + 1)) ∧ Below W.heap.size W w' := fun W b => by
          have := (R5.below b).place HK.out.2
          rw [H1.out.2.2.2.1] at this
          exact this
        have hlen : (L ++ [mk1]).length = kw + 1 := by rw [List.length_append, List.length_singleton, H1.out.2.2.2.2.1]
        have HF := Lib.hid (And.intro k56 (And.intro k60 (And.intro k61 (And.intro o5 (And.intro R5.bel hlen)))))
        clear k56 k60 k61 o5 R5 hb5 hbw b5 hlen H3 H4
        go_wp2_with (first
          | (go_at_call 56; refine HF.out.1.mono ?_; rintro e W6 ⟨rfl, b6⟩; have H6 := Lib.hid b6; clear b6)
          | (go_at_call 60
             refine (HF.out.2.1 W6 H6.out).mono ?_
             rintro e W7 ⟨v7, rfl, o7, b7⟩
             obtain ⟨A7, c7, hv7, _⟩ := o7.at_.form
             rw [HF.out.2.2.2.2.2] at hv7
             subst hv7
             have k59 := same_any W7 _ _ _ _ _ _ (L ++ [mk1]) (L ++ [mk1]) o7.at_ (HF.out.2.2.2.1.at_.fr (Fr.of_below (H6.out.trans (b7.mono H6.out.size)) (fun _ => False)) (Nat.le_refl _) (fun _ _ _ h => h)) (Nat.le_refl _) (Nat.le_trans H6.out.size b7.size)
             rw [show tf (L ++ [mk1] = L ++ [mk1]) = true from by simp [tf]] at k59
             have H7 := Lib.hid (And.intro k59 (H6.out.trans (b7.mono H6.out.size)))
             clear o7 b7 k59)
          | (go_at_call 59; refine H7.out.1.mono ?_; rintro e W8 ⟨rfl, b8⟩; have H8 := Lib.hid (H7.out.2.trans (b8.mono H7.out.2.size)); clear b8)
          | (go_at_call 61; refine (HF.out.2.2.1 W8 H8.out).mono ?_; rintro e W9 ⟨rfl, b9⟩; have H9 := Lib.hid (H8.out.trans (b9.mono H8.out.size)); clear b9)
          | fail)
        go_ret
        exact ⟨rfl, HF.out.2.2.2.2.1.trans (H9.out.mono HF.out.2.2.2.2.1.size)⟩
      · exact (H3.out.1.fr (Fr.of_below (H4.out.alloc H4.out.size (.cells (mk1.cells (.slice none 0 0)).toArray 81)) (fun _ => False)) (Nat.le_refl _) (fun _ _ _ h => h)).wider (Nat.le_refl _) (Nat.le_trans H4.out.size (by simp))
      · have h1 := H3.out.2.size
        have h2 := H4.out.size
        simp only [World.size_alloc]
        omega
end Go.Proofs.YtnlncfjibbdimaaDoor
