/- The library's Backward over a slice of claims, as a function that yields the claims with their numbers, the last one first. No condition but the reach. -/
import Derived.RangeFuncNested
import Derived.RangeFuncLeaves
import Derived.RangeFuncBox
import Derived.Shelf.Abstract
import Derived.WalkKit
import Derived.OwnWalkIn
import Derived.TacticsInMore
import Derived.LoopNIn
import Derived.LoopIn
import Derived.Test.YthpbjceajnaokaaAt
namespace Go.Proofs.Ythpbjceajnaokaa
open Go.RowKit Go.Shelf
attribute [local go_sem] Oper.semAt_some

/-- What the k-th round yields: the number and the claim. -/
def backF (n : Nat) (xs : List Cl) (k : Nat) : Int × Cl := ((n : Int) - 1 - (k : Int), xs[n - 1 - k]?.getD zeroC)
def backL (n : Nat) (xs : List Cl) (k : Nat) : List (Int × Cl) := (List.range k).map (backF n xs)
theorem backL_succ (n : Nat) (xs : List Cl) (k : Nat) : backL n xs (k + 1) = backL n xs k ++ [backF n xs k] := by simp [backL, List.range_succ]
theorem backL_length (n : Nat) (xs : List Cl) (k : Nat) : (backL n xs k).length = k := by simp [backL]

set_option maxRecDepth 100000 in
set_option maxHeartbeats 4000000 in
theorem back1_in (F : Fence) (n : Nat) (h60 : F.fn 60) (hro : F.round = none) (hn : 1 ≤ n) (l Bs n₀ N cap : Nat) (A : Option Addr) (xs : List Cl) (hN : N ≤ 1000000) (J Jx : List (Int × Cl) → World → Prop)
    (hY : ∀ pre (x : Int × Cl) W, J pre W → pre.length < N → YieldAt F (n - 1) Try.prog l #[.int .i64 x.1, .agg #[.int .i64 x.2.firm, .int .i64 x.2.seq, .int .i64 x.2.time, .int .i64 x.2.kind, .int .i64 x.2.a, .int .u64 x.2.ref, .int .u64 x.2.aux, .int .u64 x.2.prev, .int .u64 x.2.tag]] W fun e W' =>
      (e = .returned (.bool true) ∧ J (pre ++ [x]) W' ∧ Below n₀ W W') ∨ (e = .returned (.bool false) ∧ Jx (pre ++ [x]) W'))
    (hBs0 : Bs < n₀) (W : World) (hBs : W.cell? ⟨Bs, 0, none⟩ = some (.slice A N cap)) (hc : SlC W n₀ A N xs) (h0 : J [] W) :
    CallsIn F n Try.prog 60 #[.func (.yield l) #[] #[], .pointer (some ⟨Bs, 0, none⟩)] W fun e W' => (∃ v, e = .returned v) ∧
      ((∃ ys, ys = backL N xs N ∧ J ys W') ∨ (∃ pre, (∃ k, k ≤ N ∧ pre = backL N xs k) ∧ Jx pre W')) := by
  refine callsIn_of_wp Try.func60 rfl h60 ?_ hro
  simp only [Try.ntmps60, List.size_toArray, List.length_cons, List.length_nil, Nat.reduceAdd, Nat.reduceSub, Array.replicate_succ, Array.replicate_zero, List.push_toArray, List.append_toArray, List.nil_append, List.cons_append]
  gi_wp2
  gi_loopw [3] (fun i wr => ((∃ m : Nat, m < N ∧ i = .int .i64 (m : Int) ∧ J (backL N xs (N - 1 - m)) wr) ∨ (i = .int .i64 (-1) ∧ J (backL N xs N) wr)) ∧ Below n₀ W wr)
    (fun i _ => (intOf i + 1).toNat)
  case atStart =>
    rcases Nat.eq_zero_or_pos N with rfl | hp
    · exact ⟨.inr ⟨by simp, h0⟩, Below.refl _ _⟩
    · refine ⟨.inl ⟨N - 1, by omega, by congr 1; omega, ?_⟩, Below.refl _ _⟩
      rw [Nat.sub_self]; exact h0
  case round =>
    obtain ⟨h, hnx⟩ := hrel
    have hbx : wr.cell? ⟨Bs, 0, none⟩ = some (.slice A N cap) := (hnx.cell (p := ⟨Bs, 0, none⟩) hBs0).trans hBs
    rcases h with ⟨m, hlt, rfl, hJs⟩ | ⟨rfl, hJs⟩
    · have hks : backL N xs (N - 1 - m + 1) = backL N xs (N - 1 - m) ++ [backF N xs (N - 1 - m)] := backL_succ _ _ _
      obtain ⟨fn, tmps, assign, body, hy, hR⟩ := hY _ (backF N xs (N - 1 - m)) wr hJs (by rw [backL_length]; omega)
      have hm : N - 1 - (N - 1 - m) = m := by omega
      have hm2 : (N : Int) - 1 - ((N - 1 - m : Nat) : Int) = (m : Int) := by omega
      dsimp only [backF] at hy
      obtain ⟨b, off, c, rfl, hb, hx, hcl⟩ := (hc.below hnx).at_ hlt
      rw [hm, hm2, hx] at hy
      dsimp only [Option.getD_some] at hy
      obtain ⟨p0, p1, p2, p3, p4, p5, p6, p7, p8⟩ := hcl
      have Hks := hide hks; clear hks
      have Hm := hide (And.intro hm hm2); clear hm hm2
      gi_wp2
      refine hR.mono ?_
      rintro e W3 (⟨rfl, hJ3, hk3⟩ | ⟨rfl, hJx3⟩)
      · gi_wp2
        go_roundw
        case rel =>
          refine ⟨?_, hnx.trans hk3⟩
          rw [← Hks.out] at hJ3
          rcases Nat.eq_zero_or_pos m with rfl | hp
          · refine .inr ⟨by simp, ?_⟩
            rw [show N - 1 - 0 + 1 = N from by omega] at hJ3
            exact hJ3
          · refine .inl ⟨m - 1, by omega, by congr 1; omega, ?_⟩
            rw [show N - 1 - m + 1 = N - 1 - (m - 1) from by omega] at hJ3
            exact hJ3
        case measure => simp [intOf]
      · gi_wp2
        refine bodyPost_ret (results_none rfl _ _ _) rfl ?_
        exact ⟨⟨_, rfl⟩, .inr ⟨_, ⟨N - 1 - m + 1, by omega, Hks.out.symm⟩, hJx3⟩⟩
    · gi_wp2
      go_end0
      exact ⟨⟨_, rfl⟩, .inl ⟨_, rfl, hJs⟩⟩

set_option maxHeartbeats 1000000 in
theorem back_in (F : Fence) (n : Nat) (h46 : F.fn 46) (hro : F.round = none) (a : Option Addr) (len cap : Nat) (w : World) :
    CallsIn F n Try.prog 46 #[.slice a len cap] w fun e w' => e = .returned (.func (.func 60) #[] #[.pointer (some ⟨w.heap.size, 0, none⟩)]) ∧ w' = w.alloc (.cells #[.slice a len cap] 33) := by
  refine callsIn_of_wp Try.func46 rfl h46 ?_ hro
  simp only [Try.ntmps46, List.size_toArray, List.length_cons, List.length_nil, Nat.reduceAdd, Nat.reduceSub, Array.replicate_succ, Array.replicate_zero, List.push_toArray, List.append_toArray, List.nil_append, List.cons_append]
  gi_wp2
  go_ret
  exact ⟨rfl, rfl⟩

theorem back_stops (F : Fence) (n : Nat) (h60 : F.fn 60) (hro : F.round = none) (hn : 1 ≤ n) (Bs n₀ N cap : Nat) (A : Option Addr) (xs : List Cl) (hN : N ≤ 1000000) (w : World) (hBs : Bs < n₀) (hn₀ : n₀ ≤ w.heap.size)
    (hcb : w.cell? ⟨Bs, 0, none⟩ = some (.slice A N cap)) (hs : SlC w n₀ A N xs) :
    SeqStopsK F n Try.prog 60 #[.pointer (some ⟨Bs, 0, none⟩)] (fun x : Int × Cl => #[Value.int .i64 x.1, .agg #[.int .i64 x.2.firm, .int .i64 x.2.seq, .int .i64 x.2.time, .int .i64 x.2.kind, .int .i64 x.2.a, .int .u64 x.2.ref, .int .u64 x.2.aux, .int .u64 x.2.prev, .int .u64 x.2.tag]]) (Below n₀) (fun ys => ys = backL N xs N)
      (fun pre => ∃ k, k ≤ N ∧ pre = backL N xs k) N w := fun l J Jx W hW _ _ hY h0 =>
  back1_in F n h60 hro hn l Bs n₀ N cap A xs hN J Jx hY hBs W ((hW.cell (p := ⟨Bs, 0, none⟩) (Nat.lt_of_lt_of_le hBs hn₀)).trans hcb) (hs.below (hW.mono hn₀)) h0
end Go.Proofs.Ythpbjceajnaokaa
