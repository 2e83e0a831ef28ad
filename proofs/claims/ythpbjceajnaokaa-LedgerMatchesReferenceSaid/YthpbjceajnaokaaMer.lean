/- Fork, Merge and Same: the program's and the statements' wrappers. Conditions: chains of at most 100000 claims. -/
import Derived.Test.YthpbjceajnaokaaSl
namespace Go.Proofs.Ythpbjceajnaokaa
open Go.RowKit

/-- What Merge hands back: a slice and an error. -/
def MergeIs (A B : Option Addr) (n m ca cb : Nat) (xs ys : List Cl) (p : Option Addr) (k c : Nat) (er : Int) : Prop :=
  ((forkF xs ys).isSome = true ∧ p = none ∧ k = 0 ∧ c = 0 ∧ er = 270) ∨ ((forkF xs ys).isSome = false ∧ n < m ∧ p = B ∧ k = m ∧ c = cb ∧ er = 0) ∨ ((forkF xs ys).isSome = false ∧ m ≤ n ∧ p = A ∧ k = n ∧ c = ca ∧ er = 0)

def MergePost (A B : Option Addr) (n m ca cb : Nat) (xs ys : List Cl) (w : World) (e : Ending) (w' : World) : Prop :=
  ∃ p k c er, e = .returned (.tuple #[.slice p k c, .int .i64 er]) ∧ MergeIs A B n m ca cb xs ys p k c er ∧ ∃ q, w' = w.drewN q
def MergedPost (A B : Option Addr) (n m ca cb : Nat) (xs ys : List Cl) (w : World) (e : Ending) (w' : World) : Prop :=
  ∃ p k c er, e = .returned (.agg #[.slice p k c, .int .i64 er]) ∧ MergeIs A B n m ca cb xs ys p k c er ∧ Below w.heap.size w w'

set_option maxHeartbeats 400000 in
theorem merge0_any (A B : Option Addr) (n m ca cb : Nat) (xs ys : List Cl) (w : World) (ha : SlC w w.heap.size A n xs) (hb : SlC w w.heap.size B m ys) (hn : n ≤ 100000) (hm : m ≤ 100000) :
    Calls Try.prog 44 #[.slice A n ca, .slice B m cb] w (MergePost A B n m ca cb xs ys w) := by
  have H := hide (fork_any A B n m ca cb xs ys w ha hb hn hm); clear ha hb
  cases hf : (forkF xs ys).isSome
  · have Hf := hide hf
    unfold ForkPost at H
    rw [hf] at H
    clear hf
    by_cases hlt : n < m
    · go_enter Try.func44, Try.ntmps44
      go_wp2_with fail
      refine H.out.mono ?_
      rintro e w1 ⟨rfl, q, rfl⟩
      go_wp2
      go_ret2
      exact ⟨_, _, _, _, rfl, .inr (.inl ⟨Hf.out, hlt, rfl, rfl, rfl, rfl⟩), _, rfl⟩
    · go_enter Try.func44, Try.ntmps44
      go_wp2_with fail
      refine H.out.mono ?_
      rintro e w1 ⟨rfl, q, rfl⟩
      go_wp2
      go_ret2
      exact ⟨_, _, _, _, rfl, .inr (.inr ⟨Hf.out, by omega, rfl, rfl, rfl, rfl⟩), _, rfl⟩
  · have Hf := hide hf
    unfold ForkPost at H
    rw [hf] at H
    clear hf
    go_enter Try.func44, Try.ntmps44
    go_wp2_with fail
    refine H.out.mono ?_
    rintro e w1 ⟨rfl, q, rfl⟩
    go_wp2
    go_ret2
    exact ⟨_, _, _, _, rfl, .inl ⟨Hf.out, rfl, rfl, rfl, rfl⟩, _, rfl⟩

set_option maxHeartbeats 400000 in
theorem merge_any (A B : Option Addr) (n m ca cb : Nat) (xs ys : List Cl) (w : World) (ha : SlC w w.heap.size A n xs) (hb : SlC w w.heap.size B m ys) (hn : n ≤ 100000) (hm : m ≤ 100000) :
    Calls Try.prog 22 #[.slice A n ca, .slice B m cb] w (MergedPost A B n m ca cb xs ys w) := by
  have H := fun W h1 h2 => hide (merge0_any A B n m ca cb xs ys W h1 h2 hn hm)
  have Ha := hide ha; clear ha
  have Hb := hide hb; clear hb
  go_enter Try.func22, Try.ntmps22
  go_wp2_with fail
  refine (H _ ((Ha.out.alloc (Nat.le_refl _) _).more (by simp)) ((Hb.out.alloc (Nat.le_refl _) _).more (by simp))).out.mono ?_
  rintro e w1 ⟨p, k, c, er, rfl, hi, q, rfl⟩
  have Hi := hide hi; clear hi
  clear H
  go_wp2
  refine bodyPost_ret (v := .agg #[.slice p k c, .int .i64 er]) (by simp [results, Try.results22, go_sem]) rfl ⟨p, k, c, er, rfl, Hi.out, ?_⟩
  exact (by repeat (first | exact Below.refl _ _ | refine Below.setCell ?_ (by simp) _ | refine below_drewN ?_ _ | refine Below.drew ?_ | refine Below.alloc ?_ (by simp) _ | refine Below.setCell ?_ (by simp; omega) _ | refine Below.alloc ?_ (by simp; omega) _))

/-- Whether two chains are the same. -/
def sameB (xs ys : List Cl) : Bool := decide (xs = ys)
def SamePost (b : Bool) (w : World) (e : Ending) (w' : World) : Prop := e = .returned (.bool b) ∧ ∃ q, w' = w.drewN q

set_option maxHeartbeats 400000 in
theorem same_any (A B : Option Addr) (n m ca cb : Nat) (xs ys : List Cl) (w : World) (ha : SlC w w.heap.size A n xs) (hb : SlC w w.heap.size B m ys) (hn : n ≤ 100000) (hm : m ≤ 100000) :
    Calls Try.prog 15 #[.slice A n ca, .slice B m cb] w (SamePost (sameB xs ys) w) := by
  have Ha := hide ha; clear ha
  have Hb := hide hb; clear hb
  by_cases hnm : n = m
  · subst hnm
    have Ns := @neq_same
    go_enter Try.func15, Try.ntmps15
    go_wp2
    go_loopw [5] (fun i wr => ∃ k : Nat, k ≤ n ∧ i = .int .i64 k ∧ xs.take k = ys.take k ∧ ∃ q, wr = w.drewN q) (fun i _ => n - (intOf i).toNat)
    case atStart => exact ⟨0, by omega, rfl, rfl, 0, rfl⟩
    case round =>
      obtain ⟨k, hk, rfl, heq, q, rfl⟩ := hrel
      have Heq := hide heq; clear heq
      by_cases hlt : k < n
      · obtain ⟨b1, o1, c, rfl, hb1, hx, g0, g1, g2, g3, g4, g5, g6, g7, g8⟩ := Ha.out.at_ (k := k) (by omega)
        obtain ⟨b2, o2, d, rfl, hb2, hy, f0, f1, f2, f3, f4, f5, f6, f7, f8⟩ := Hb.out.at_ (k := k) (by omega)
        have Hx := hide hx; clear hx
        have Hy := hide hy; clear hy
        clear hb1 hb2
        have kn : (k : Int) < n := by omega
        by_cases hcd : c = d
        · subst hcd
          go_wp2
          go_quiet (fail)
          go_wp2
          go_roundw
          case rel => exact ⟨k + 1, by omega, by go_num, take_more Heq.out Hx.out Hy.out, _, rfl⟩
          case measure => simp [intOf]; omega
        · have No := neq_other c d hcd
          clear Ns
          have Hcd := hide hcd; clear hcd
          go_wp2
          go_quiet (fail)
          go_wp2
          go_ret
          refine ⟨ret_bool ?_, _, World.drewN_drewN _ _ _⟩
          rw [sameB, eq_comm, decide_eq_false_iff_not]
          intro he
          have h1 := Hx.out
          rw [he, Hy.out] at h1
          exact Hcd.out (Option.some.inj h1).symm
      · go_wp2
        go_ret
        refine ⟨ret_bool ?_, _, rfl⟩
        rw [sameB, eq_comm, decide_eq_true_iff]
        have h1 := Ha.out.1
        have h2 := Hb.out.1
        have h3 := Heq.out
        rw [List.take_of_length_le (by omega), List.take_of_length_le (by omega)] at h3
        exact h3
  · have hne : ((n : Int) != (m : Int)) = true := by rw [bne_iff_ne]; omega
    go_enter Try.func15, Try.ntmps15
    go_wp2
    go_ret
    refine ⟨ret_bool ?_, 0, rfl⟩
    rw [sameB, eq_comm, decide_eq_false_iff_not]
    intro he
    have h1 := Ha.out.1
    have h2 := Hb.out.1
    rw [he] at h1
    omega

def ForkedPost (o : Option Nat) (w : World) (e : Ending) (w' : World) : Prop := e = .returned (.agg #[.int .i64 (orZero o), .bool o.isSome]) ∧ Below w.heap.size w w'

set_option maxHeartbeats 400000 in
theorem forked_any (A B : Option Addr) (n m ca cb : Nat) (xs ys : List Cl) (w : World) (ha : SlC w w.heap.size A n xs) (hb : SlC w w.heap.size B m ys) (hn : n ≤ 100000) (hm : m ≤ 100000) :
    Calls Try.prog 24 #[.slice A n ca, .slice B m cb] w (ForkedPost (forkF xs ys) w) := by
  have H := fun W h1 h2 => hide (fork_any A B n m ca cb xs ys W h1 h2 hn hm)
  have Ha := hide ha; clear ha
  have Hb := hide hb; clear hb
  go_enter Try.func24, Try.ntmps24
  go_wp2_with fail
  refine (H _ ((Ha.out.alloc (Nat.le_refl _) _).more (by simp)) ((Hb.out.alloc (Nat.le_refl _) _).more (by simp))).out.mono ?_
  rintro e w1 ⟨rfl, q, rfl⟩
  clear H
  go_wp2
  exact bodyPost_ret (v := .agg #[.int .i64 (orZero (forkF xs ys)), .bool (forkF xs ys).isSome]) (by simp [results, Try.results24, go_sem]) rfl ⟨rfl, (by repeat (first | exact Below.refl _ _ | refine Below.setCell ?_ (by simp) _ | refine below_drewN ?_ _ | refine Below.drew ?_ | refine Below.alloc ?_ (by simp) _ | refine Below.setCell ?_ (by simp; omega) _ | refine Below.alloc ?_ (by simp; omega) _))⟩
end Go.Proofs.Ythpbjceajnaokaa
