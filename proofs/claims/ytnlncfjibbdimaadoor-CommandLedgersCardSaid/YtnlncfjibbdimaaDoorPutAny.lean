/-
  The walk of command.Put, for every command.
-/
import Derived.Test.YtnlncfjibbdimaaDoorChkRng
import Derived.Test.YtnlncfjibbdimaaDoorPutF
namespace Go.Proofs.YtnlncfjibbdimaaDoor
open Go.RowKit
set_option linter.unusedSimpArgs false
set_option linter.unusedVariables false

theorem num_int8 (w : World) (lo g : Nat) (n : Int) (bs : List Nat) (h : WAt w lo g bs) (hl : bs.length + (enc n.toNat).length ≤ 1099511627776) (hn : 0 ≤ n ∧ n ≤ 9223372036854775807) : Calls Tryd.prog 99 #[.pointer (some ⟨g, 0, none⟩), .int .i64 n] w (NumW w lo g (bs ++ enc n.toNat)) := by
  have := num_any8 w lo g n.toNat bs h hl (by omega)
  rw [Int.toNat_of_nonneg hn.1] at this
  exact this
theorem putId_int8 (w : World) (lo g : Nat) (a b c : Int) (bs : List Nat) (h : WAt w lo g bs) (hl : bs.length + (enc a.toNat).length + (enc b.toNat).length + (enc c.toNat).length ≤ 1099511627776) (ha : 0 ≤ a ∧ a ≤ 9223372036854775807) (hb : 0 ≤ b ∧ b ≤ 9223372036854775807) (hc : 0 ≤ c ∧ c ≤ 9223372036854775807) :
    Calls Tryd.prog 100 #[.pointer (some ⟨g, 0, none⟩), .agg #[.int .i64 a, .int .i64 b, .int .i64 c]] w (NumW w lo g (bs ++ enc a.toNat ++ enc b.toNat ++ enc c.toNat)) := by
  have := putId_any8 w lo g a.toNat b.toNat c.toNat bs h hl (by omega) (by omega) (by omega)
  rw [Int.toNat_of_nonneg ha.1, Int.toNat_of_nonneg hb.1, Int.toNat_of_nonneg hc.1] at this
  exact this

def encI (n : Int) : List Nat := enc n.toNat
def encS (s : ByteArray) : List Nat := enc s.size ++ bytesN s
/-- What is put ahead of the parts. -/
def putHead (c : Cmd) : List Nat :=
  encI c.kind ++ (encI c.idn ++ encI c.idb ++ encI c.ids) ++ encS c.bucket ++ encS c.key ++ (encI c.upn ++ encI c.upb ++ encI c.ups) ++ (encI c.pbn ++ encI c.pbb ++ encI c.pbs) ++ encI c.psize ++ encS c.etag ++ encI c.part ++ encI (c.parts.length : Int)
/-- A command's bytes. -/
def putN (c : Cmd) : List Nat := putHead c ++ c.parts.flatMap encI ++ encI c.time ++ encI c.days

theorem flat_len (l : List Int) (h : ∀ x ∈ l, inG x) : (l.flatMap encI).length ≤ 6 * l.length := by
  induction l with
  | nil => simp
  | cons x r ih =>
    have h1 := h x (by simp)
    have h2 : (encI x).length ≤ 6 := enc_len6 (by unfold inG at h1; omega)
    have := ih (fun y hy => h y (by simp [hy]))
    rw [List.flatMap_cons, List.length_append, List.length_cons]
    omega

structure Lens (c : Cmd) : Prop where
  l : (enc c.kind.toNat).length ≤ 6 ∧ (enc c.idn.toNat).length ≤ 6 ∧ (enc c.idb.toNat).length ≤ 6 ∧ (enc c.ids.toNat).length ≤ 6 ∧ (enc c.bucket.size).length ≤ 6 ∧ (bytesN c.bucket).length = c.bucket.size ∧ c.bucket.size ≤ 64 ∧ (enc c.key.size).length ≤ 6 ∧ (bytesN c.key).length = c.key.size ∧ c.key.size ≤ 200 ∧
    (enc c.upn.toNat).length ≤ 6 ∧ (enc c.upb.toNat).length ≤ 6 ∧ (enc c.ups.toNat).length ≤ 6 ∧ (enc c.pbn.toNat).length ≤ 6 ∧ (enc c.pbb.toNat).length ≤ 6 ∧ (enc c.pbs.toNat).length ≤ 6 ∧ (enc c.psize.toNat).length ≤ 6 ∧ (enc c.etag.size).length ≤ 6 ∧ (bytesN c.etag).length = c.etag.size ∧ c.etag.size ≤ 64 ∧
    (enc c.part.toNat).length ≤ 6 ∧ (enc (c.parts.length : Int).toNat).length ≤ 6 ∧ (enc c.time.toNat).length ≤ 6 ∧ (enc c.days.toNat).length ≤ 6
  r : inG c.kind ∧ inG c.idn ∧ inG c.idb ∧ inG c.ids ∧ inG c.upn ∧ inG c.upb ∧ inG c.ups ∧ inG c.pbn ∧ inG c.pbb ∧ inG c.pbs ∧ inG c.psize ∧ inG c.part ∧ inG c.time ∧ inG c.days ∧ c.parts.length ≤ 16
theorem Lens.of {c : Cmd} (h : c.InG) : Lens c := by
  have e : ∀ x : Int, inG x → (enc x.toNat).length ≤ 6 := fun x hx => enc_len6 (by unfold inG at hx; omega)
  have hb := h.bucket
  have hk := h.key
  have he := h.etag
  have hp := h.parts.2
  exact ⟨⟨e _ h.kind, e _ h.id.1, e _ h.id.2.1, e _ h.id.2.2, enc_len6 (by omega), bytesN_length _, hb, enc_len6 (by omega), bytesN_length _, hk, e _ h.up.1, e _ h.up.2.1, e _ h.up.2.2, e _ h.blob.1, e _ h.blob.2.1, e _ h.blob.2.2, e _ h.psize, enc_len6 (by omega), bytesN_length _, he, e _ h.part, enc_len6 (by omega), e _ h.time, e _ h.days⟩,
    h.kind, h.id.1, h.id.2.1, h.id.2.2, h.up.1, h.up.2.1, h.up.2.2, h.blob.1, h.blob.2.1, h.blob.2.2, h.psize, h.part, h.time, h.days, hp⟩

def PutPost (c : Cmd) (a1 : Addr) (w : World) (e : Ending) (w' : World) : Prop :=
  (chkB c = false → e = .returned (.tuple #[.slice none 0 0, errv a1]) ∧ Below w.heap.size w w') ∧ (chkB c = true → DonePost w (putN c) e w')

set_option maxRecDepth 100000 in
set_option maxHeartbeats 3200000 in
theorem put_any8 (c : Cmd) (hz : c.Sized) (w : World) (lo hi : Nat) (pv : Value) (hp : IntsAt w lo hi pv c.parts) (hhi : hi ≤ w.heap.size) (a1 : Addr) (h1 : w.cell? ⟨1, 0, none⟩ = some (errv a1)) :
    Calls Tryd.prog 44 #[.agg (c.cells pv).toArray] w (PutPost c a1 w) := by
  have h00 := World.block_lt_of_cell? w _ h1
  simp only at h00
  go_enter Tryd.func44, Tryd.ntmps44
  go_upto_region 1 with (fail)
  refine wp_letter (fun W => Below w.heap.size w W ∧ Blk W w.heap.size 81 (c.cells pv).toArray) ⟨(Below.refl _ _).alloc (Nat.le_refl _) _, Blk.new w 81 _⟩ ?_
  rintro W ⟨bW, hX⟩
  obtain ⟨x, hx⟩ : ∃ x, x = w.heap.size := ⟨_, rfl⟩
  rw [← hx] at hX ⊢
  have hxW : x < W.heap.size := hX.lt
  have hpW := hp.fr (Fr.of_below bW (fun _ => False)) hhi (fun _ _ _ h => h)
  have hck := check_any c hz W lo hi pv hpW (Nat.le_trans hhi bW.size) a1 ((bW.cell h00).trans h1)
  have BW := Lib.hid bW
  have HX := Lib.hid hx
  have HP := Lib.hid hpW
  have hhW := Nat.le_trans hhi bW.size
  clear hx bW hp hpW h1 hz
  have hrX : W.rangeAt x 0 (c.cells pv) := fun j v hv => by
    rw [Nat.zero_add]; exact (hX.cell j).trans (by simpa using hv)
  cases hc : chkB c with
  | false =>
    have HC := Lib.hid hc
    rw [hc] at hck
    clear hc
    go_wp2_with (first
      | ((with_reducible refine law_load 81 (.tmp 1) x 0 (c.cells pv) ?_ hrX Tryd.underlying81 ?_ ?_ ?_); rfl; rfl; exact cmd_info)
      | (go_at_call 43; refine hck.mono ?_; rintro e w1 ⟨rfl, b1⟩; rw [if_neg (by decide)])
      | fail)
    go_ret2
    exact ⟨fun _ => ⟨rfl, BW.out.trans (b1.mono BW.out.size)⟩, fun h => by rw [HC.out] at h; cases h⟩
  | true =>
    have HC := Lib.hid hc
    have HLEN := Lib.hid (Lens.of (chk_rng hc))
    have HPR := Lib.hid (chk_rng hc).parts
    rw [hc] at hck
    clear hc
    go_upto_region 2 with (first
      | ((with_reducible refine law_load 81 (.tmp 1) x 0 (c.cells pv) ?_ hrX Tryd.underlying81 ?_ ?_ ?_); rfl; rfl; exact cmd_info)
      | (go_at_call 43; refine hck.mono ?_; rintro e w1 ⟨rfl, b1⟩; rw [if_pos rfl])
      | fail)
    have hX1 := hX.below b1 hX.lt
    have hs1 := b1.size
    have HB1 := Lib.hid b1
    clear hrX hX b1
    go_upto_region 5 with (first
      | (go_at_call 98; refine (newWriter_w _).mono ?_; rintro e w2 ⟨g, rfl, hg, hW2, b2⟩)
      | fail)
    have hX := hX1.below b2 hX1.lt
    have hxg : x ≠ g := by omega
    have kept : ∀ (u v : World), Blk u x 81 (c.cells pv).toArray → Fr u.heap.size (WS u g) u v → Blk v x 81 (c.cells pv).toArray := fun u v hu f => hu.fr f hu.lt (fun hs => by
      rcases hs with hs | ⟨cs, hs⟩
      · exact hxg hs
      · exact hu.ne_type hs (by decide) rfl)
    have HK := Lib.hid kept
    have HB2 := Lib.hid b2
    have hN : WAt w2 g g [] ∧ Below g w2 w2 ∧ Fr w2.heap.size (WS w2 g) w2 w2 := ⟨hW2, Below.refl _ _, Fr.refl _ _ _⟩
    have HN := Lib.hid hN
    have HXX := Lib.hid hX
    have cX := hX.cell
    simp only [Cmd.cells] at cX
    obtain ⟨pA, pc, hpv, hR⟩ : ∃ pA pc, pv = .slice pA c.parts.length pc ∧ Rd W lo hi 1 pA c.parts.length (ints c.parts) := by
      obtain ⟨A1, c1, q1, _, _, _, q5⟩ := HP.out
      exact ⟨A1, c1, q1, q5⟩
    subst hpv
    have HRD := Lib.hid hR
    clear hR
    clear kept b2 hX1 hW2 hN hX hck
    go_upto_region 15 with (first
      | (go_at_call 99
         refine (num_int8 _ _ _ _ _ HN.out.1 (by have := HLEN.out.l; simp only [List.length_append, List.length_nil]; omega) (by have := HLEN.out.r; unfold inG at this; omega)).mono ?_
         rintro e wN ⟨rfl, h1, b1, f1⟩
         have HXX := Lib.hid (HK.out _ _ HXX.out f1)
         have HN := Lib.hid (NumW.trans (e := .returned (.tuple #[])) HN.out ⟨rfl, h1, b1, f1⟩).2
         have cX := HXX.out.cell
         simp only [Cmd.cells] at cX
         clear b1 f1 h1)
      | (go_at_call 100
         refine (putId_int8 _ _ _ _ _ _ _ HN.out.1 (by have := HLEN.out.l; simp only [List.length_append, List.length_nil]; omega) (by have := HLEN.out.r; unfold inG at this; omega) (by have := HLEN.out.r; unfold inG at this; omega) (by have := HLEN.out.r; unfold inG at this; omega)).mono ?_
         rintro e wN ⟨rfl, h1, b1, f1⟩
         have HXX := Lib.hid (HK.out _ _ HXX.out f1)
         have HN := Lib.hid (NumW.trans (e := .returned (.tuple #[])) HN.out ⟨rfl, h1, b1, f1⟩).2
         have cX := HXX.out.cell
         simp only [Cmd.cells] at cX
         clear b1 f1 h1)
      | (go_at_call 101
         refine (text_any8 _ _ _ _ _ HN.out.1 (by have := HLEN.out.l; simp only [List.length_append, List.length_nil]; omega)).mono ?_
         rintro e wN ⟨rfl, h1, b1, f1⟩
         have HXX := Lib.hid (HK.out _ _ HXX.out f1)
         have HN := Lib.hid (NumW.trans (e := .returned (.tuple #[])) HN.out ⟨rfl, h1, b1, f1⟩).2
         have cX := HXX.out.cell
         simp only [Cmd.cells] at cX
         clear b1 f1 h1)
      | fail)
    have hN : WAt wN g g (putHead c) ∧ Below g w2 wN ∧ Fr w2.heap.size (WS w2 g) w2 wN := by
      have h := HN.out
      have e : WAt wN g g (putHead c) := by simpa [putHead, encI, encS, List.append_assoc] using h.1
      exact ⟨e, h.2⟩
    have hhead : (putHead c).length ≤ 700 := by
      have := HLEN.out.l
      simp only [putHead, encI, encS, List.length_append]
      omega
    have HN := Lib.hid hN
    have HH := Lib.hid hhead
    have hg' : W.heap.size ≤ g := Nat.le_trans hs1 hg
    have hbW : ∀ wr, Below g w2 wr → Below W.heap.size W wr := fun wr h => (HB1.out.trans (HB2.out.mono hs1)).trans (h.mono hg')
    have HBW := Lib.hid hbW
    obtain ⟨wo, hwo⟩ : ∃ wo, wo = wN := ⟨_, rfl⟩
    rw [← hwo] at HN HXX cX ⊢
    obtain ⟨n, hn⟩ : ∃ n, n = c.parts.length := ⟨_, rfl⟩
    have hn16 : n ≤ 16 := by rw [hn]; exact HPR.out.2
    rw [← hn] at cX
    have HNN := Lib.hid hn
    clear hN hhead hbW hwo hn
    go_wp2_with (fail)
    go_loopw [61] (fun i wr => ∃ k : Nat, k ≤ n ∧ i = .int .i64 k ∧ (WAt wr g g (putHead c ++ (c.parts.take k).flatMap encI) ∧ Below g w2 wr ∧ Fr w2.heap.size (WS w2 g) w2 wr) ∧ Blk wr x 81 (c.cells (.slice pA c.parts.length pc)).toArray) (fun i _ => n - (intOf i).toNat)
    case atStart => exact ⟨0, Nat.zero_le _, rfl, by simpa using HN.out, HXX.out⟩
    case round =>
      obtain ⟨k, hk, rfl, hN, hX⟩ := hrel
      have hbr := HBW.out _ hN.2.1
      have hlenk : ((c.parts.take k).flatMap encI).length ≤ 96 := by
        have := flat_len (c.parts.take k) (fun y hy => HPR.out.1 y (List.mem_of_mem_take hy))
        have h2 : (c.parts.take k).length ≤ 16 := by rw [List.length_take, ← HNN.out]; omega
        omega
      have HN := Lib.hid hN
      have HXX := Lib.hid hX
      have HLK := Lib.hid hlenk
      clear hN hX hlenk cX
      by_cases hlt : k < n
      · obtain ⟨y, hy⟩ : ∃ y, c.parts[k]? = some y := ⟨_, List.getElem?_eq_getElem (by rw [← HNN.out]; exact hlt)⟩
        have q5 := HRD.out
        rw [← HNN.out] at q5
        obtain ⟨ad, hAd, _, hhi2, hcell⟩ := q5.2 (by omega)
        subst hAd
        obtain ⟨b, o, sp⟩ := ad
        have hc0 : ∃ u, W.cell? ((⟨b, o, sp⟩ : Addr).add 0) = some u := by
          have h0 : 0 < c.parts.length := by rw [← HNN.out]; omega
          exact ⟨_, hcell 0 _ (by rw [ints_getElem?, List.getElem?_eq_getElem h0]; rfl)⟩
        obtain ⟨u0, hu0⟩ := hc0
        have hsp : sp = none := by simpa [Addr.add] using World.cell?_spot hu0
        subst hsp
        have hck := hcell k (.int .i64 y) (by rw [ints_getElem?, hy]; rfl)
        rw [Addr.add_mid] at hck
        have hckr : wr.cell? ⟨b, o + k, none⟩ = some (.int .i64 y) := (hbr.cell (p := ⟨b, o + k, none⟩) (Nat.lt_of_lt_of_le hhi2 hhW)).trans hck
        have hyg : 0 ≤ y ∧ y ≤ 9223372036854775807 := by
          have := HPR.out.1 y (List.mem_of_getElem? hy)
          unfold inG at this; omega
        have hye : (enc y.toNat).length ≤ 6 := by
          have := HPR.out.1 y (List.mem_of_getElem? hy)
          exact enc_len6 (by unfold inG at this; omega)
        have HY := Lib.hid (And.intro hyg hye)
        have htk : (c.parts.take (k + 1)).flatMap encI = (c.parts.take k).flatMap encI ++ encI y := by
          rw [List.take_add_one, hy]
          simp
        have HT := Lib.hid htk
        clear q5 hcell hck hu0 hyg hye htk hy
        go_wp2_with (first
          | (go_at_call 99
             refine (num_int8 _ _ _ _ _ HN.out.1 (by have h1 := HH.out; have h2 := HLK.out; have h3 := HY.out.2; simp only [List.length_append]; omega) HY.out.1).mono ?_
             rintro e wM ⟨rfl, h1, b1, f1⟩
             have HXX := Lib.hid (HK.out _ _ HXX.out f1)
             have HN := Lib.hid (NumW.trans (e := .returned (.tuple #[])) HN.out ⟨rfl, h1, b1, f1⟩).2
             clear b1 f1 h1)
          | fail)
        go_roundw
        case rel => exact ⟨k + 1, by omega, by go_num, by rw [HT.out, ← List.append_assoc]; exact HN.out, HXX.out⟩
        case measure => simp [intOf]; omega
      · have hkn : k = n := by omega
        have hfull : (c.parts.take k).flatMap encI = c.parts.flatMap encI := by rw [hkn, HNN.out, List.take_length]
        have hN := HN.out
        rw [hfull] at hN
        have hlk := HLK.out
        rw [hfull] at hlk
        have HN := Lib.hid hN
        have HLK := Lib.hid hlk
        have cX := HXX.out.cell
        simp only [Cmd.cells] at cX
        clear hN hlk hfull
        go_wp2_with (first
          | (go_at_call 99
             refine (num_int8 _ _ _ _ _ HN.out.1 (by have h1 := HH.out; have h2 := HLK.out; have := HLEN.out.l; simp only [List.length_append]; omega) (by have := HLEN.out.r; unfold inG at this; omega)).mono ?_
             rintro e wM ⟨rfl, h1, b1, f1⟩
             have HXX := Lib.hid (HK.out _ _ HXX.out f1)
             have HN := Lib.hid (NumW.trans (e := .returned (.tuple #[])) HN.out ⟨rfl, h1, b1, f1⟩).2
             have cX := HXX.out.cell
             simp only [Cmd.cells] at cX
             clear b1 f1 h1)
          | (go_at_call 102
             have hpos : 0 < (putN c).length := by
               have := enc_pos c.kind.toNat
               simp only [putN, putHead, encI, List.length_append]
               omega
             refine (done_some _ g g (putN c) (by have h := HN.out.1; simpa [putN, encI, List.append_assoc] using h) hpos).mono ?_
             rintro e w9 ⟨A, cc, rfl, o9, b9⟩)
          | fail)
        go_ret2
        have hb2 : Below w.heap.size w w2 := BW.out.trans ((HB1.out.mono BW.out.size).trans (HB2.out.mono (Nat.le_trans BW.out.size HB1.out.size)))
        have hbN := HN.out.2.1
        have hsN := hbN.size
        have hg2 : w.heap.size ≤ g := Nat.le_trans (Nat.le_trans BW.out.size HB1.out.size) hg
        have hs2 := hb2.size
        exact ⟨fun h => (by rw [HC.out] at h; cases h), fun _ => ⟨A, cc, rfl, o9.wider (by omega) (Nat.le_refl _), (hb2.trans (hbN.mono hg2)).trans (b9.mono (by omega))⟩⟩

end Go.Proofs.YtnlncfjibbdimaaDoor
