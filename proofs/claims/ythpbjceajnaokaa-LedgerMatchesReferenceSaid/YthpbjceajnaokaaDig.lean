/- The digests' contracts. No condition. -/
import Derived.Test.YthpbjceajnaokaaBase
namespace Go.Proofs.Ythpbjceajnaokaa
open Go.RowKit

set_option maxHeartbeats 400000 in
theorem step_any (a b : Int) (w : World) :
    Calls Try.prog 58 #[.int .u64 a, .int .u64 b] w fun e w' => e = .returned (.int .u64 (stp a b)) ∧ w = w' := by
  go_enter Try.func58, Try.ntmps58
  go_wp2
  go_ret
  exact ⟨rfl, rfl⟩

set_option maxHeartbeats 400000 in
theorem step3_any (a b : Int) (w : World) :
    Calls Try.prog 57 #[.int .u64 a, .int .u64 b] w fun e w' => e = .returned (.int .u64 (stp a b)) ∧ w = w' := by
  go_enter Try.func57, Try.ntmps57
  go_wp2
  go_ret
  exact ⟨rfl, rfl⟩

set_option maxHeartbeats 400000 in
theorem join_any (a b : Int) (w : World) :
    Calls Try.prog 39 #[.int .u64 a, .int .u64 b] w fun e w' => e = .returned (.int .u64 (joinD a b)) ∧ w = w' := by
  go_enter Try.func39, Try.ntmps39
  go_wp2_with (go_at_call 58; refine (step_any _ _ _).mono ?_; rintro e w' ⟨rfl, rfl⟩)
  go_ret
  exact ⟨rfl, rfl⟩

set_option maxHeartbeats 400000 in
theorem join3_any (a b : Int) (w : World) :
    Calls Try.prog 40 #[.int .u64 a, .int .u64 b] w fun e w' => e = .returned (.int .u64 (joinD a b)) ∧ w = w' := by
  go_enter Try.func40, Try.ntmps40
  go_wp2_with (go_at_call 57; refine (step3_any _ _ _).mono ?_; rintro e w' ⟨rfl, rfl⟩)
  go_ret
  exact ⟨rfl, rfl⟩

set_option maxHeartbeats 400000 in
theorem words_any (b off n cap : Nat) (xs : List Int) (w : World) (hn : xs.length = n) (hn0 : n ≤ 1000)
    (hc : ∀ i, i < n → w.cell? ⟨b, off + i, none⟩ = some (.int .i64 (xs[i]?.getD 0))) :
    Calls Try.prog 38 #[.slice (some ⟨b, off, none⟩) n cap] w fun e w' => e = .returned (.int .u64 (words xs)) ∧ w = w' := by
  have Hn := Lib.hid hn; clear hn
  go_enter Try.func38, Try.ntmps38
  go_wp2_with (go_at_call 58; refine (step_any _ _ _).mono ?_; rintro e w' ⟨rfl, rfl⟩)
  go_loop [3, 12] (fun h i => ∃ k : Nat, k ≤ n ∧ i = .int .i64 k ∧ h = .int .u64 (wordsFrom (stp 2611923443488327891 n) (xs.take k))) (fun _ i => n - (intOf i).toNat)
  case atStart => exact ⟨0, by omega, rfl, rfl⟩
  case round =>
    obtain ⟨k, hk, rfl, rfl⟩ := hrel
    by_cases hlt : k < n
    · have g := hc k hlt
      go_wp2_with (go_at_call 58; refine (step_any _ _ _).mono ?_; rintro e w' ⟨rfl, rfl⟩)
      go_round
      case rel => exact ⟨k + 1, by omega, by go_num, by rw [wordsFrom_take _ _ _ (by rw [Hn.out]; exact hlt)]⟩
      case measure => simp [intOf]; omega
    · go_wp2
      go_ret
      exact ⟨ret_u64 (by rw [List.take_of_length_le (by rw [Hn.out]; omega)]; unfold words; rw [Hn.out]), rfl⟩

set_option maxHeartbeats 400000 in
theorem words3_any (b off n cap : Nat) (xs : List Int) (w : World) (hn : xs.length = n) (hn0 : n ≤ 1000)
    (hc : ∀ i, i < n → w.cell? ⟨b, off + i, none⟩ = some (.int .i64 (xs[i]?.getD 0))) :
    Calls Try.prog 35 #[.slice (some ⟨b, off, none⟩) n cap] w fun e w' => e = .returned (.int .u64 (words xs)) ∧ w = w' := by
  have Hn := Lib.hid hn; clear hn
  go_enter Try.func35, Try.ntmps35
  go_wp2_with (go_at_call 57; refine (step3_any _ _ _).mono ?_; rintro e w' ⟨rfl, rfl⟩)
  go_loop [3, 4] (fun h i => ∃ k : Nat, k ≤ n ∧ i = .int .i64 k ∧ h = .int .u64 (wordsFrom (stp 2611923443488327891 n) (xs.take k))) (fun _ i => n - (intOf i).toNat)
  case atStart => exact ⟨0, by omega, rfl, rfl⟩
  case round =>
    obtain ⟨k, hk, rfl, rfl⟩ := hrel
    by_cases hlt : k < n
    · have g := hc k hlt
      go_wp2_with (go_at_call 57; refine (step3_any _ _ _).mono ?_; rintro e w' ⟨rfl, rfl⟩)
      go_round
      case rel => exact ⟨k + 1, by omega, by go_num, by rw [wordsFrom_take _ _ _ (by rw [Hn.out]; exact hlt)]⟩
      case measure => simp [intOf]; omega
    · go_wp2
      go_ret
      exact ⟨ret_u64 (by rw [List.take_of_length_le (by rw [Hn.out]; omega)]; unfold words; rw [Hn.out]), rfl⟩

set_option maxHeartbeats 400000 in
theorem digest_any (c : Cl) (w : World) :
    Calls Try.prog 16 #[.agg #[.int .i64 c.firm, .int .i64 c.seq, .int .i64 c.time, .int .i64 c.kind, .int .i64 c.a, .int .u64 c.ref, .int .u64 c.aux, .int .u64 c.prev, .int .u64 c.tag]] w fun e w' => e = .returned (.int .u64 (digC c)) ∧ Below w.heap.size w w' := by
  go_enter Try.func16, Try.ntmps16
  go_wp2_with fail
  refine (words_any _ 0 8 8 [c.firm, c.seq, c.time, c.kind, c.a, wrap64 c.ref, wrap64 c.aux, wrap64 c.prev] _ rfl (by omega) (cell8 (by rw [← World.size_alloc (w := w)]; exact heap_alloc_new _ _))).mono ?_
  rintro e w' ⟨rfl, rfl⟩
  go_wp2
  go_ret
  exact ⟨rfl, ((Below.refl _ _).alloc (Nat.le_refl _) _).alloc (by simp) _⟩

set_option maxHeartbeats 400000 in
theorem digest3_any (c : Cl) (w : World) :
    Calls Try.prog 17 #[.agg #[.int .i64 c.firm, .int .i64 c.seq, .int .i64 c.time, .int .i64 c.kind, .int .i64 c.a, .int .u64 c.ref, .int .u64 c.aux, .int .u64 c.prev, .int .u64 c.tag]] w fun e w' => e = .returned (.int .u64 (digC c)) ∧ Below w.heap.size w w' := by
  go_enter Try.func17, Try.ntmps17
  go_wp2_with fail
  refine (words3_any _ 0 8 8 [c.firm, c.seq, c.time, c.kind, c.a, wrap64 c.ref, wrap64 c.aux, wrap64 c.prev] _ rfl (by omega) (cell8 (by rw [← World.size_alloc (w := w)]; exact heap_alloc_new _ _))).mono ?_
  rintro e w' ⟨rfl, rfl⟩
  go_wp2
  go_ret
  exact ⟨rfl, ((Below.refl _ _).alloc (Nat.le_refl _) _).alloc (by simp) _⟩

set_option maxHeartbeats 400000 in
theorem tag_any (key : Int) (c : Cl) (w : World) :
    Calls Try.prog 18 #[.int .u64 key, .agg #[.int .i64 c.firm, .int .i64 c.seq, .int .i64 c.time, .int .i64 c.kind, .int .i64 c.a, .int .u64 c.ref, .int .u64 c.aux, .int .u64 c.prev, .int .u64 c.tag]] w fun e w' => e = .returned (.int .u64 (tagC key c)) ∧ Below w.heap.size w w' := by
  go_enter Try.func18, Try.ntmps18
  go_wp2_with fail
  refine (digest_any _ _).mono ?_
  rintro e w1 ⟨rfl, hb⟩
  have Hb := hide hb; clear hb
  go_wp2_with fail
  refine (join_any _ _ _).mono ?_
  rintro e w' ⟨rfl, rfl⟩
  go_wp2
  go_ret
  exact ⟨rfl, ((Below.refl _ _).alloc (Nat.le_refl _) _).trans (Hb.out.mono (by simp))⟩

set_option maxHeartbeats 400000 in
theorem tag3_any (key : Int) (c : Cl) (w : World) :
    Calls Try.prog 19 #[.int .u64 key, .agg #[.int .i64 c.firm, .int .i64 c.seq, .int .i64 c.time, .int .i64 c.kind, .int .i64 c.a, .int .u64 c.ref, .int .u64 c.aux, .int .u64 c.prev, .int .u64 c.tag]] w fun e w' => e = .returned (.int .u64 (tagC key c)) ∧ Below w.heap.size w w' := by
  go_enter Try.func19, Try.ntmps19
  go_wp2_with fail
  refine (digest3_any _ _).mono ?_
  rintro e w1 ⟨rfl, hb⟩
  have Hb := hide hb; clear hb
  go_wp2_with fail
  refine (join3_any _ _ _).mono ?_
  rintro e w' ⟨rfl, rfl⟩
  go_wp2
  go_ret
  exact ⟨rfl, ((Below.refl _ _).alloc (Nat.le_refl _) _).trans (Hb.out.mono (by simp))⟩

set_option maxHeartbeats 400000 in
theorem key_any (firm : Int) (w : World) :
    Calls Try.prog 12 #[.int .i64 firm] w fun e w' => e = .returned (.int .u64 (words [firm, 41])) ∧ Below w.heap.size w w' := by
  go_enter Try.func12, Try.ntmps12
  go_wp2_with fail
  refine (words3_any _ 0 2 2 [firm, 41] _ rfl (by omega) (cell2 (heap_alloc_new _ _))).mono ?_
  rintro e w' ⟨rfl, rfl⟩
  go_wp2
  go_ret
  exact ⟨rfl, (Below.refl _ _).alloc (Nat.le_refl _) _⟩
end Go.Proofs.Ythpbjceajnaokaa
