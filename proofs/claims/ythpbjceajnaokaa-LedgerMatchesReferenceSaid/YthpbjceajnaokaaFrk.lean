/- The reference's ForkIn and MergeIn. Condition: chains of at most 100000 claims. -/
import Derived.Test.YthpbjceajnaokaaMad
import Derived.Test.YthpbjceajnaokaaLap
namespace Go.Proofs.Ythpbjceajnaokaa
open Go.RowKit

theorem fork_box (w : World) (v0 v1 : Value) (q : Nat) : ((w.alloc (.cells #[.int .i64 0, .bool false] 46)).drewN q).cell? ⟨w.heap.size, 0, none⟩ = some (.int .i64 0) ∧ ((w.alloc (.cells #[.int .i64 0, .bool false] 46)).drewN q).cell? ⟨w.heap.size, 1, none⟩ = some (.bool false) := by
  have n0 := heap_alloc_new w (.cells #[.int .i64 0, .bool false] 46)
  exact ⟨by show (w.alloc (.cells #[.int .i64 0, .bool false] 46)).cell? _ = _; simp only [World.cell?, n0]; rfl, by show (w.alloc (.cells #[.int .i64 0, .bool false] 46)).cell? _ = _; simp only [World.cell?, n0]; rfl⟩

set_option maxHeartbeats 1000000 in
theorem forkin_any (A B : Option Addr) (n m ca cb : Nat) (xs ys : List Cl) (w : World) (ha : SlC w w.heap.size A n xs) (hb : SlC w w.heap.size B m ys) (hn : n ≤ 100000) (hm : m ≤ 100000) :
    Calls Try.prog 25 #[.slice A n ca, .slice B m cb] w (ForkedPost (forkF xs ys) w) := by
  have Ha := hide ha; clear ha
  have Hb := hide hb; clear hb
  have Ns := @neq_same
  go_enter Try.func25, Try.ntmps25
  go_wp2
  obtain ⟨w1, hw1⟩ : ∃ V, V = w.alloc (.cells #[.int .i64 0, .bool false] 46) := ⟨_, rfl⟩
  have hb1 : Below w.heap.size w w1 := by rw [hw1]; exact (Below.refl _ w).alloc (Nat.le_refl _) _
  have q0 : w1.cell? ⟨w.heap.size, 0, none⟩ = some (.int .i64 0) := by rw [hw1]; exact (fork_box w undef undef 0).1
  have q1 : w1.cell? ⟨w.heap.size, 1, none⟩ = some (.bool false) := by rw [hw1]; exact (fork_box w undef undef 0).2
  have qf : ∀ o, w1.frozen? ⟨w.heap.size, o, none⟩ = false := by rw [hw1]; intro o; go_simp
  rw [← hw1]
  have Hb1 := hide hb1
  clear hw1 hb1
  go_loopw [5] (fun i wr => ∃ k : Nat, k ≤ n ∧ k ≤ m ∧ i = .int .i64 k ∧ xs.take k = ys.take k ∧ ∃ q, wr = w1.drewN q) (fun i _ => n - (intOf i).toNat)
  case atStart => exact ⟨0, by omega, by omega, rfl, rfl, 0, rfl⟩
  case round =>
    obtain ⟨k, hk, hk2, rfl, heq, q, rfl⟩ := hrel
    have Heq := hide heq; clear heq
    by_cases hlt : k < n ∧ k < m
    · obtain ⟨hl1, hl2⟩ := hlt
      obtain ⟨b1, o1, c, rfl, hb1, hx, hc⟩ := Ha.out.at_ (k := k) (by omega)
      obtain ⟨b2, o2, d, rfl, hb2, hy, hd⟩ := Hb.out.at_ (k := k) (by omega)
      obtain ⟨g0, g1, g2, g3, g4, g5, g6, g7, g8⟩ := hc.keep (w' := w1) (fun o => Hb1.out.cell (p := ⟨b1, o, none⟩) hb1)
      obtain ⟨f0, f1, f2, f3, f4, f5, f6, f7, f8⟩ := hd.keep (w' := w1) (fun o => Hb1.out.cell (p := ⟨b2, o, none⟩) hb2)
      have Hx := hide hx; clear hx hc
      have Hy := hide hy; clear hy hd
      clear hb1 hb2
      have kn : (k : Int) < n := by omega
      have km : (k : Int) < m := by omega
      by_cases hcd : c = d
      · subst hcd
        go_wp2
        go_quiet (fail)
        go_wp2
        go_roundw
        case rel => exact ⟨k + 1, by omega, by omega, by go_num, take_more Heq.out Hx.out Hy.out, _, rfl⟩
        case measure => simp [intOf]; omega
      · have No := neq_other c d hcd
        clear Ns
        have Hcd := hide hcd; clear hcd
        go_wp2
        go_quiet (fail)
        go_wp2
        have hres : forkF xs ys = some k := forkF_hit xs ys k c d Heq.out Hx.out Hy.out Hcd.out
        refine bodyPost_ret (v := .agg #[.int .i64 (orZero (forkF xs ys)), .bool (forkF xs ys).isSome]) (by rw [hres]; simp [results, Try.results25, go_sem, orZero, q0, q1]) rfl ⟨rfl, ?_⟩
        exact ((below_drewN Hb1.out _).setCell (p := ⟨w.heap.size, 0, none⟩) (Nat.le_refl _) _).setCell (p := ⟨w.heap.size, 1, none⟩) (Nat.le_refl _) _
    · have hres : forkF xs ys = none := forkF_miss xs ys k Heq.out (by have h1 := Ha.out.1; have h2 := Hb.out.1; omega)
      have Hres := hide hres; clear hres
      by_cases hkn : k < n
      · have hkm : ¬ k < m := fun h => hlt ⟨hkn, h⟩
        clear hlt
        go_wp2
        refine bodyPost_ret (v := .agg #[.int .i64 (orZero (forkF xs ys)), .bool (forkF xs ys).isSome]) (by rw [Hres.out]; simp [results, Try.results25, go_sem, orZero, q0, q1]) rfl ⟨rfl, ?_⟩
        exact ((below_drewN Hb1.out _).setCell (p := ⟨w.heap.size, 0, none⟩) (Nat.le_refl _) _).setCell (p := ⟨w.heap.size, 1, none⟩) (Nat.le_refl _) _
      · clear hlt
        go_wp2
        refine bodyPost_ret (v := .agg #[.int .i64 (orZero (forkF xs ys)), .bool (forkF xs ys).isSome]) (by rw [Hres.out]; simp [results, Try.results25, go_sem, orZero, q0, q1]) rfl ⟨rfl, ?_⟩
        exact ((below_drewN Hb1.out _).setCell (p := ⟨w.heap.size, 0, none⟩) (Nat.le_refl _) _).setCell (p := ⟨w.heap.size, 1, none⟩) (Nat.le_refl _) _

set_option maxHeartbeats 1000000 in
theorem mergein_any (A B : Option Addr) (n m ca cb : Nat) (xs ys : List Cl) (w : World) (ha : SlC w w.heap.size A n xs) (hb : SlC w w.heap.size B m ys) (hn : n ≤ 100000) (hm : m ≤ 100000) :
    Calls Try.prog 23 #[.slice A n ca, .slice B m cb] w (MergedPost A B n m ca cb xs ys w) := by
  have H := fun W h1 h2 => hide (forkin_any A B n m ca cb xs ys W h1 h2 hn hm)
  have Ha := hide ha; clear ha
  have Hb := hide hb; clear hb
  go_enter Try.func23, Try.ntmps23
  go_wp2_with fail
  obtain ⟨w1, hw1⟩ : ∃ V, V = w.alloc (.cells #[.slice none 0 0, .int .i64 0] 38) := ⟨_, rfl⟩
  obtain ⟨q0, q1, vb, vz⟩ := pair_cells w _ _ w1 hw1
  have qf : ∀ o, w1.frozen? ⟨w.heap.size, o, none⟩ = false := by rw [hw1]; intro o; go_simp
  rw [← hw1]
  have Vb := hide vb
  have Vz := hide vz
  clear hw1 vb vz
  refine (H _ ((Ha.out.below Vb.out).more Vb.out.size) ((Hb.out.below Vb.out).more Vb.out.size)).out.mono ?_
  clear H
  rintro e w2 ⟨rfl, hb2⟩
  have hz : w.heap.size < w1.heap.size := by have := Vz.out; omega
  have p0 := (hb2.cell (p := ⟨w.heap.size, 0, none⟩) hz).trans q0
  have p1 := (hb2.cell (p := ⟨w.heap.size, 1, none⟩) hz).trans q1
  have pf : ∀ o, w2.frozen? ⟨w.heap.size, o, none⟩ = false := fun o => (hb2.frozen (p := ⟨w.heap.size, o, none⟩) hz).trans (qf o)
  have Hb2 := hide (Vb.out.trans (hb2.mono Vb.out.size))
  have Hz2 := hide (show w.heap.size < w2.heap.size by have := hb2.size; omega)
  clear q0 q1 qf hz hb2
  go_upto_region 2 with (fail)
  obtain ⟨w3, hw3⟩ : ∃ V, V = w2.alloc (.cells #[.int .i64 (orZero (forkF xs ys)), .bool (forkF xs ys).isSome] 46) := ⟨_, rfl⟩
  have hb3 : Below w2.heap.size w2 w3 := by rw [hw3]; exact (Below.refl _ _).alloc (Nat.le_refl _) _
  have s1 : w3.cell? ⟨w2.heap.size, 1, none⟩ = some (.bool (forkF xs ys).isSome) := by
    have n0 := heap_alloc_new w2 (.cells #[.int .i64 (orZero (forkF xs ys)), .bool (forkF xs ys).isSome] 46)
    rw [hw3]; simp only [World.cell?, n0]; rfl
  have r0 := (hb3.cell (p := ⟨w.heap.size, 0, none⟩) Hz2.out).trans p0
  have r1 := (hb3.cell (p := ⟨w.heap.size, 1, none⟩) Hz2.out).trans p1
  have rf : ∀ o, w3.frozen? ⟨w.heap.size, o, none⟩ = false := fun o => (hb3.frozen (p := ⟨w.heap.size, o, none⟩) Hz2.out).trans (pf o)
  rw [← hw3]
  have Hb3 := hide (Hb2.out.trans (hb3.mono Hb2.out.size))
  obtain ⟨BY, hBY⟩ : ∃ q, q = w2.heap.size := ⟨_, rfl⟩
  rw [← hBY] at s1 ⊢
  clear hw3 hb3 p0 p1 pf hBY Hb2
  cases hf : (forkF xs ys).isSome
  · rw [hf] at s1
    have Hf := hide hf; clear hf
    by_cases hlt : n < m
    · go_wp2
      obtain ⟨V, hV⟩ : ∃ V, V = (w3.setCell ⟨w.heap.size, 0, none⟩ (.slice B m cb)).setCell ⟨w.heap.size, 1, none⟩ (.int .i64 0) := ⟨_, rfl⟩
      obtain ⟨v0, v1, vb, vk⟩ := pair_set w3 w.heap.size _ _ _ _ r0 r1 V hV
      rw [← hV]
      exact bodyPost_ret (v := .agg #[.slice B m cb, .int .i64 0]) (by simp [results, Try.results23, go_sem, v0, v1]) rfl ⟨_, _, _, _, rfl, .inr (.inl ⟨Hf.out, hlt, rfl, rfl, rfl, rfl⟩), Hb3.out.trans (vb _ (Nat.le_refl _))⟩
    · go_wp2
      obtain ⟨V, hV⟩ : ∃ V, V = (w3.setCell ⟨w.heap.size, 0, none⟩ (.slice A n ca)).setCell ⟨w.heap.size, 1, none⟩ (.int .i64 0) := ⟨_, rfl⟩
      obtain ⟨v0, v1, vb, vk⟩ := pair_set w3 w.heap.size _ _ _ _ r0 r1 V hV
      rw [← hV]
      exact bodyPost_ret (v := .agg #[.slice A n ca, .int .i64 0]) (by simp [results, Try.results23, go_sem, v0, v1]) rfl ⟨_, _, _, _, rfl, .inr (.inr ⟨Hf.out, by omega, rfl, rfl, rfl, rfl⟩), Hb3.out.trans (vb _ (Nat.le_refl _))⟩
  · rw [hf] at s1
    have Hf := hide hf; clear hf
    go_wp2
    obtain ⟨V, hV⟩ : ∃ V, V = (w3.setCell ⟨w.heap.size, 0, none⟩ (.slice none 0 0)).setCell ⟨w.heap.size, 1, none⟩ (.int .i64 270) := ⟨_, rfl⟩
    obtain ⟨v0, v1, vb, vk⟩ := pair_set w3 w.heap.size _ _ _ _ r0 r1 V hV
    rw [← hV]
    exact bodyPost_ret (v := .agg #[.slice none 0 0, .int .i64 270]) (by simp [results, Try.results23, go_sem, v0, v1]) rfl ⟨_, _, _, _, rfl, .inl ⟨Hf.out, rfl, rfl, rfl, rfl⟩, Hb3.out.trans (vb _ (Nat.le_refl _))⟩
end Go.Proofs.Ythpbjceajnaokaa
