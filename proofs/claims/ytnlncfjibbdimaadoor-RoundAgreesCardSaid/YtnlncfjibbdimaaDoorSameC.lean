/-
  The walk of SameCommand.
-/
import Derived.Test.YtnlncfjibbdimaaDoorSame
namespace Go.Proofs.YtnlncfjibbdimaaDoor
open Go.RowKit
set_option linter.unusedSimpArgs false
set_option linter.unusedVariables false

theorem bytes_ne {a b : ByteArray} (h : a ≠ b) : (a == b) = false ∧ (a.toList == b.toList) = false := by
  have hl : (a.toList == b.toList) = false := by
    rw [beq_eq_false_iff_ne]
    intro he
    rw [ByteArray.toList_eq, ByteArray.toList_eq] at he
    obtain ⟨x⟩ := a
    obtain ⟨y⟩ := b
    exact h (congrArg ByteArray.mk (Array.toList_inj.1 he))
  exact ⟨by rw [beq_toListBytes]; exact hl, hl⟩

set_option maxRecDepth 100000 in
set_option maxHeartbeats 4000000 in
theorem sameCommand_any (w : World) (lo1 hi1 lo2 hi2 : Nat) (pa pb : Value) (c d : Cmd) (ha : IntsAt w lo1 hi1 pa c.parts) (hb : IntsAt w lo2 hi2 pb d.parts) (h1 : hi1 ≤ w.heap.size) (h2 : hi2 ≤ w.heap.size) :
    Calls Tryd.prog 45 #[.agg (c.cells pa).toArray, .agg (d.cells pb).toArray] w (YesNo (tf (c = d)) w) := by
  obtain ⟨A, n, rfl, _⟩ := ha.form
  obtain ⟨B, m, rfl, _⟩ := hb.form
  obtain ⟨kind1, idn1, idb1, ids1, bucket1, key1, upn1, upb1, ups1, pbn1, pbb1, pbs1, psize1, etag1, part1, parts1, time1, days1⟩ := c
  obtain ⟨kind2, idn2, idb2, ids2, bucket2, key2, upn2, upb2, ups2, pbn2, pbb2, pbs2, psize2, etag2, part2, parts2, time2, days2⟩ := d
  simp only at ha hb
  simp only [Cmd.cells]
  by_cases h_kind : kind1 = kind2
  rotate_left
  · have hpost : tf ((⟨kind1, idn1, idb1, ids1, bucket1, key1, upn1, upb1, ups1, pbn1, pbb1, pbs1, psize1, etag1, part1, parts1, time1, days1⟩ : Cmd) = ⟨kind2, idn2, idb2, ids2, bucket2, key2, upn2, upb2, ups2, pbn2, pbb2, pbs2, psize2, etag2, part2, parts2, time2, days2⟩) = false := tf_false (fun h => h_kind (congrArg Cmd.kind h))
    rw [hpost]
    clear hpost ha hb
    go_enter Tryd.func45, Tryd.ntmps45
    go_wp2_with (fail)
    go_ret
    exact ⟨rfl, ((Below.refl _ _).alloc (Nat.le_refl _) _).alloc (by simp) _⟩
  subst h_kind
  by_cases h_idn : idn1 = idn2
  rotate_left
  · have hpost : tf ((⟨kind1, idn1, idb1, ids1, bucket1, key1, upn1, upb1, ups1, pbn1, pbb1, pbs1, psize1, etag1, part1, parts1, time1, days1⟩ : Cmd) = ⟨kind1, idn2, idb2, ids2, bucket2, key2, upn2, upb2, ups2, pbn2, pbb2, pbs2, psize2, etag2, part2, parts2, time2, days2⟩) = false := tf_false (fun h => h_idn (congrArg Cmd.idn h))
    rw [hpost]
    clear hpost ha hb
    go_enter Tryd.func45, Tryd.ntmps45
    go_wp2_with (fail)
    go_ret
    exact ⟨rfl, ((Below.refl _ _).alloc (Nat.le_refl _) _).alloc (by simp) _⟩
  subst h_idn
  by_cases h_idb : idb1 = idb2
  rotate_left
  · have hpost : tf ((⟨kind1, idn1, idb1, ids1, bucket1, key1, upn1, upb1, ups1, pbn1, pbb1, pbs1, psize1, etag1, part1, parts1, time1, days1⟩ : Cmd) = ⟨kind1, idn1, idb2, ids2, bucket2, key2, upn2, upb2, ups2, pbn2, pbb2, pbs2, psize2, etag2, part2, parts2, time2, days2⟩) = false := tf_false (fun h => h_idb (congrArg Cmd.idb h))
    rw [hpost]
    clear hpost ha hb
    go_enter Tryd.func45, Tryd.ntmps45
    go_wp2_with (fail)
    go_ret
    exact ⟨rfl, ((Below.refl _ _).alloc (Nat.le_refl _) _).alloc (by simp) _⟩
  subst h_idb
  by_cases h_ids : ids1 = ids2
  rotate_left
  · have hpost : tf ((⟨kind1, idn1, idb1, ids1, bucket1, key1, upn1, upb1, ups1, pbn1, pbb1, pbs1, psize1, etag1, part1, parts1, time1, days1⟩ : Cmd) = ⟨kind1, idn1, idb1, ids2, bucket2, key2, upn2, upb2, ups2, pbn2, pbb2, pbs2, psize2, etag2, part2, parts2, time2, days2⟩) = false := tf_false (fun h => h_ids (congrArg Cmd.ids h))
    rw [hpost]
    clear hpost ha hb
    go_enter Tryd.func45, Tryd.ntmps45
    go_wp2_with (fail)
    go_ret
    exact ⟨rfl, ((Below.refl _ _).alloc (Nat.le_refl _) _).alloc (by simp) _⟩
  subst h_ids
  by_cases h_bucket : bucket1 = bucket2
  rotate_left
  · have hpost : tf ((⟨kind1, idn1, idb1, ids1, bucket1, key1, upn1, upb1, ups1, pbn1, pbb1, pbs1, psize1, etag1, part1, parts1, time1, days1⟩ : Cmd) = ⟨kind1, idn1, idb1, ids1, bucket2, key2, upn2, upb2, ups2, pbn2, pbb2, pbs2, psize2, etag2, part2, parts2, time2, days2⟩) = false := tf_false (fun h => h_bucket (congrArg Cmd.bucket h))
    obtain ⟨hs1, hs2⟩ := bytes_ne h_bucket
    clear h_bucket
    rw [hpost]
    clear hpost ha hb
    go_enter Tryd.func45, Tryd.ntmps45
    go_wp2_with (fail)
    go_ret
    exact ⟨rfl, ((Below.refl _ _).alloc (Nat.le_refl _) _).alloc (by simp) _⟩
  subst h_bucket
  by_cases h_key : key1 = key2
  rotate_left
  · have hpost : tf ((⟨kind1, idn1, idb1, ids1, bucket1, key1, upn1, upb1, ups1, pbn1, pbb1, pbs1, psize1, etag1, part1, parts1, time1, days1⟩ : Cmd) = ⟨kind1, idn1, idb1, ids1, bucket1, key2, upn2, upb2, ups2, pbn2, pbb2, pbs2, psize2, etag2, part2, parts2, time2, days2⟩) = false := tf_false (fun h => h_key (congrArg Cmd.key h))
    obtain ⟨hs1, hs2⟩ := bytes_ne h_key
    clear h_key
    rw [hpost]
    clear hpost ha hb
    go_enter Tryd.func45, Tryd.ntmps45
    go_wp2_with (fail)
    go_ret
    exact ⟨rfl, ((Below.refl _ _).alloc (Nat.le_refl _) _).alloc (by simp) _⟩
  subst h_key
  by_cases h_upn : upn1 = upn2
  rotate_left
  · have hpost : tf ((⟨kind1, idn1, idb1, ids1, bucket1, key1, upn1, upb1, ups1, pbn1, pbb1, pbs1, psize1, etag1, part1, parts1, time1, days1⟩ : Cmd) = ⟨kind1, idn1, idb1, ids1, bucket1, key1, upn2, upb2, ups2, pbn2, pbb2, pbs2, psize2, etag2, part2, parts2, time2, days2⟩) = false := tf_false (fun h => h_upn (congrArg Cmd.upn h))
    rw [hpost]
    clear hpost ha hb
    go_enter Tryd.func45, Tryd.ntmps45
    go_wp2_with (fail)
    go_ret
    exact ⟨rfl, ((Below.refl _ _).alloc (Nat.le_refl _) _).alloc (by simp) _⟩
  subst h_upn
  by_cases h_upb : upb1 = upb2
  rotate_left
  · have hpost : tf ((⟨kind1, idn1, idb1, ids1, bucket1, key1, upn1, upb1, ups1, pbn1, pbb1, pbs1, psize1, etag1, part1, parts1, time1, days1⟩ : Cmd) = ⟨kind1, idn1, idb1, ids1, bucket1, key1, upn1, upb2, ups2, pbn2, pbb2, pbs2, psize2, etag2, part2, parts2, time2, days2⟩) = false := tf_false (fun h => h_upb (congrArg Cmd.upb h))
    rw [hpost]
    clear hpost ha hb
    go_enter Tryd.func45, Tryd.ntmps45
    go_wp2_with (fail)
    go_ret
    exact ⟨rfl, ((Below.refl _ _).alloc (Nat.le_refl _) _).alloc (by simp) _⟩
  subst h_upb
  by_cases h_ups : ups1 = ups2
  rotate_left
  · have hpost : tf ((⟨kind1, idn1, idb1, ids1, bucket1, key1, upn1, upb1, ups1, pbn1, pbb1, pbs1, psize1, etag1, part1, parts1, time1, days1⟩ : Cmd) = ⟨kind1, idn1, idb1, ids1, bucket1, key1, upn1, upb1, ups2, pbn2, pbb2, pbs2, psize2, etag2, part2, parts2, time2, days2⟩) = false := tf_false (fun h => h_ups (congrArg Cmd.ups h))
    rw [hpost]
    clear hpost ha hb
    go_enter Tryd.func45, Tryd.ntmps45
    go_wp2_with (fail)
    go_ret
    exact ⟨rfl, ((Below.refl _ _).alloc (Nat.le_refl _) _).alloc (by simp) _⟩
  subst h_ups
  by_cases h_pbn : pbn1 = pbn2
  rotate_left
  · have hpost : tf ((⟨kind1, idn1, idb1, ids1, bucket1, key1, upn1, upb1, ups1, pbn1, pbb1, pbs1, psize1, etag1, part1, parts1, time1, days1⟩ : Cmd) = ⟨kind1, idn1, idb1, ids1, bucket1, key1, upn1, upb1, ups1, pbn2, pbb2, pbs2, psize2, etag2, part2, parts2, time2, days2⟩) = false := tf_false (fun h => h_pbn (congrArg Cmd.pbn h))
    rw [hpost]
    clear hpost ha hb
    go_enter Tryd.func45, Tryd.ntmps45
    go_wp2_with (fail)
    go_ret
    exact ⟨rfl, ((Below.refl _ _).alloc (Nat.le_refl _) _).alloc (by simp) _⟩
  subst h_pbn
  by_cases h_pbb : pbb1 = pbb2
  rotate_left
  · have hpost : tf ((⟨kind1, idn1, idb1, ids1, bucket1, key1, upn1, upb1, ups1, pbn1, pbb1, pbs1, psize1, etag1, part1, parts1, time1, days1⟩ : Cmd) = ⟨kind1, idn1, idb1, ids1, bucket1, key1, upn1, upb1, ups1, pbn1, pbb2, pbs2, psize2, etag2, part2, parts2, time2, days2⟩) = false := tf_false (fun h => h_pbb (congrArg Cmd.pbb h))
    rw [hpost]
    clear hpost ha hb
    go_enter Tryd.func45, Tryd.ntmps45
    go_wp2_with (fail)
    go_ret
    exact ⟨rfl, ((Below.refl _ _).alloc (Nat.le_refl _) _).alloc (by simp) _⟩
  subst h_pbb
  by_cases h_pbs : pbs1 = pbs2
  rotate_left
  · have hpost : tf ((⟨kind1, idn1, idb1, ids1, bucket1, key1, upn1, upb1, ups1, pbn1, pbb1, pbs1, psize1, etag1, part1, parts1, time1, days1⟩ : Cmd) = ⟨kind1, idn1, idb1, ids1, bucket1, key1, upn1, upb1, ups1, pbn1, pbb1, pbs2, psize2, etag2, part2, parts2, time2, days2⟩) = false := tf_false (fun h => h_pbs (congrArg Cmd.pbs h))
    rw [hpost]
    clear hpost ha hb
    go_enter Tryd.func45, Tryd.ntmps45
    go_wp2_with (fail)
    go_ret
    exact ⟨rfl, ((Below.refl _ _).alloc (Nat.le_refl _) _).alloc (by simp) _⟩
  subst h_pbs
  by_cases h_psize : psize1 = psize2
  rotate_left
  · have hpost : tf ((⟨kind1, idn1, idb1, ids1, bucket1, key1, upn1, upb1, ups1, pbn1, pbb1, pbs1, psize1, etag1, part1, parts1, time1, days1⟩ : Cmd) = ⟨kind1, idn1, idb1, ids1, bucket1, key1, upn1, upb1, ups1, pbn1, pbb1, pbs1, psize2, etag2, part2, parts2, time2, days2⟩) = false := tf_false (fun h => h_psize (congrArg Cmd.psize h))
    rw [hpost]
    clear hpost ha hb
    go_enter Tryd.func45, Tryd.ntmps45
    go_wp2_with (fail)
    go_ret
    exact ⟨rfl, ((Below.refl _ _).alloc (Nat.le_refl _) _).alloc (by simp) _⟩
  subst h_psize
  by_cases h_etag : etag1 = etag2
  rotate_left
  · have hpost : tf ((⟨kind1, idn1, idb1, ids1, bucket1, key1, upn1, upb1, ups1, pbn1, pbb1, pbs1, psize1, etag1, part1, parts1, time1, days1⟩ : Cmd) = ⟨kind1, idn1, idb1, ids1, bucket1, key1, upn1, upb1, ups1, pbn1, pbb1, pbs1, psize1, etag2, part2, parts2, time2, days2⟩) = false := tf_false (fun h => h_etag (congrArg Cmd.etag h))
    obtain ⟨hs1, hs2⟩ := bytes_ne h_etag
    clear h_etag
    rw [hpost]
    clear hpost ha hb
    go_enter Tryd.func45, Tryd.ntmps45
    go_wp2_with (fail)
    go_ret
    exact ⟨rfl, ((Below.refl _ _).alloc (Nat.le_refl _) _).alloc (by simp) _⟩
  subst h_etag
  by_cases h_part : part1 = part2
  rotate_left
  · have hpost : tf ((⟨kind1, idn1, idb1, ids1, bucket1, key1, upn1, upb1, ups1, pbn1, pbb1, pbs1, psize1, etag1, part1, parts1, time1, days1⟩ : Cmd) = ⟨kind1, idn1, idb1, ids1, bucket1, key1, upn1, upb1, ups1, pbn1, pbb1, pbs1, psize1, etag1, part2, parts2, time2, days2⟩) = false := tf_false (fun h => h_part (congrArg Cmd.part h))
    rw [hpost]
    clear hpost ha hb
    go_enter Tryd.func45, Tryd.ntmps45
    go_wp2_with (fail)
    go_ret
    exact ⟨rfl, ((Below.refl _ _).alloc (Nat.le_refl _) _).alloc (by simp) _⟩
  subst h_part
  by_cases h_time : time1 = time2
  rotate_left
  · have hpost : tf ((⟨kind1, idn1, idb1, ids1, bucket1, key1, upn1, upb1, ups1, pbn1, pbb1, pbs1, psize1, etag1, part1, parts1, time1, days1⟩ : Cmd) = ⟨kind1, idn1, idb1, ids1, bucket1, key1, upn1, upb1, ups1, pbn1, pbb1, pbs1, psize1, etag1, part1, parts2, time2, days2⟩) = false := tf_false (fun h => h_time (congrArg Cmd.time h))
    rw [hpost]
    clear hpost ha hb
    go_enter Tryd.func45, Tryd.ntmps45
    go_wp2_with (fail)
    go_ret
    exact ⟨rfl, ((Below.refl _ _).alloc (Nat.le_refl _) _).alloc (by simp) _⟩
  subst h_time
  by_cases h_days : days1 = days2
  rotate_left
  · have hpost : tf ((⟨kind1, idn1, idb1, ids1, bucket1, key1, upn1, upb1, ups1, pbn1, pbb1, pbs1, psize1, etag1, part1, parts1, time1, days1⟩ : Cmd) = ⟨kind1, idn1, idb1, ids1, bucket1, key1, upn1, upb1, ups1, pbn1, pbb1, pbs1, psize1, etag1, part1, parts2, time1, days2⟩) = false := tf_false (fun h => h_days (congrArg Cmd.days h))
    rw [hpost]
    clear hpost ha hb
    go_enter Tryd.func45, Tryd.ntmps45
    go_wp2_with (fail)
    go_ret
    exact ⟨rfl, ((Below.refl _ _).alloc (Nat.le_refl _) _).alloc (by simp) _⟩
  subst h_days
  have hb1 := hb.fr (Fr.of_below (((Below.refl w.heap.size w).alloc (Nat.le_refl _) (.cells #[.int .i64 kind1, .int .i64 idn1, .int .i64 idb1, .int .i64 ids1, .string bucket1, .string key1, .int .i64 upn1, .int .i64 upb1, .int .i64 ups1, .int .i64 pbn1, .int .i64 pbb1, .int .i64 pbs1, .int .i64 psize1, .string etag1, .int .i64 part1, .slice A parts1.length n, .int .i64 time1, .int .i64 days1] 81)).alloc (by simp) (.cells #[.int .i64 kind1, .int .i64 idn1, .int .i64 idb1, .int .i64 ids1, .string bucket1, .string key1, .int .i64 upn1, .int .i64 upb1, .int .i64 ups1, .int .i64 pbn1, .int .i64 pbb1, .int .i64 pbs1, .int .i64 psize1, .string etag1, .int .i64 part1, .slice B parts2.length m, .int .i64 time1, .int .i64 days1] 81)) (fun _ => False)) h2 (fun _ _ _ h => h)
  have ha1 := ha.fr (Fr.of_below (((Below.refl w.heap.size w).alloc (Nat.le_refl _) (.cells #[.int .i64 kind1, .int .i64 idn1, .int .i64 idb1, .int .i64 ids1, .string bucket1, .string key1, .int .i64 upn1, .int .i64 upb1, .int .i64 ups1, .int .i64 pbn1, .int .i64 pbb1, .int .i64 pbs1, .int .i64 psize1, .string etag1, .int .i64 part1, .slice A parts1.length n, .int .i64 time1, .int .i64 days1] 81)).alloc (by simp) (.cells #[.int .i64 kind1, .int .i64 idn1, .int .i64 idb1, .int .i64 ids1, .string bucket1, .string key1, .int .i64 upn1, .int .i64 upb1, .int .i64 ups1, .int .i64 pbn1, .int .i64 pbb1, .int .i64 pbs1, .int .i64 psize1, .string etag1, .int .i64 part1, .slice B parts2.length m, .int .i64 time1, .int .i64 days1] 81)) (fun _ => False)) h1 (fun _ _ _ h => h)
  go_enter Tryd.func45, Tryd.ntmps45
  go_wp2_with (fail)
  refine (sameInts_any _ lo1 hi1 lo2 hi2 _ _ parts1 parts2 ha1 hb1).mono ?_
  rintro e w1 ⟨rfl, hb2⟩
  go_wp2_with (fail)
  go_ret
  refine ⟨ret_bool ?_, (((Below.refl _ _).alloc (Nat.le_refl _) _).alloc (by simp) _).trans (hb2.mono (by simp; omega))⟩
  by_cases hp : parts1 = parts2
  · subst hp
    rw [tf_true rfl]; simp
  · rw [tf_false (fun h => hp (congrArg Cmd.parts h))]; simp [hp]

end Go.Proofs.YtnlncfjibbdimaaDoor

