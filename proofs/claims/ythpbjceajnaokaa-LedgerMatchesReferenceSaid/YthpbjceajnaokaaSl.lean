/- Slices that read as lists of claims; whether two claims are equal; Fork, Merge, Same. No condition. -/
import Derived.Test.YthpbjceajnaokaaForm
namespace Go.Proofs.Ythpbjceajnaokaa
open Go.RowKit

/-- The nine cells from an address on are a claim. -/
def IsCl (w : World) (b o : Nat) (c : Cl) : Prop :=
  w.cell? ⟨b, o, none⟩ = some (.int .i64 c.firm) ∧ w.cell? ⟨b, o + 1, none⟩ = some (.int .i64 c.seq) ∧ w.cell? ⟨b, o + 2, none⟩ = some (.int .i64 c.time) ∧
  w.cell? ⟨b, o + 3, none⟩ = some (.int .i64 c.kind) ∧ w.cell? ⟨b, o + 4, none⟩ = some (.int .i64 c.a) ∧ w.cell? ⟨b, o + 5, none⟩ = some (.int .u64 c.ref) ∧
  w.cell? ⟨b, o + 6, none⟩ = some (.int .u64 c.aux) ∧ w.cell? ⟨b, o + 7, none⟩ = some (.int .u64 c.prev) ∧ w.cell? ⟨b, o + 8, none⟩ = some (.int .u64 c.tag)

/-- A slice of n claims at an address, which lies below block B. -/
def SlC (w : World) (B : Nat) (A : Option Addr) (n : Nat) (xs : List Cl) : Prop :=
  xs.length = n ∧ (0 < n → ∃ b off, A = some ⟨b, off, none⟩ ∧ b < B ∧ ∀ k c, xs[k]? = some c → IsCl w b (off + k * 9) c)

section
variable {w w' : World} {B B' n : Nat} {A : Option Addr} {xs : List Cl}
theorem IsCl.keep {b o : Nat} {c : Cl} (h : IsCl w b o c) (hk : ∀ o, w'.cell? ⟨b, o, none⟩ = w.cell? ⟨b, o, none⟩) : IsCl w' b o c := by
  obtain ⟨h0, h1, h2, h3, h4, h5, h6, h7, h8⟩ := h
  exact ⟨(hk _).trans h0, (hk _).trans h1, (hk _).trans h2, (hk _).trans h3, (hk _).trans h4, (hk _).trans h5, (hk _).trans h6, (hk _).trans h7, (hk _).trans h8⟩
theorem IsCl.at0 {b : Nat} {c : Cl} (h : IsCl w b 0 c) : w.cell? ⟨b, 0, none⟩ = some (.int .i64 c.firm) ∧ w.cell? ⟨b, 1, none⟩ = some (.int .i64 c.seq) ∧ w.cell? ⟨b, 2, none⟩ = some (.int .i64 c.time) ∧
    w.cell? ⟨b, 3, none⟩ = some (.int .i64 c.kind) ∧ w.cell? ⟨b, 4, none⟩ = some (.int .i64 c.a) ∧ w.cell? ⟨b, 5, none⟩ = some (.int .u64 c.ref) ∧
    w.cell? ⟨b, 6, none⟩ = some (.int .u64 c.aux) ∧ w.cell? ⟨b, 7, none⟩ = some (.int .u64 c.prev) ∧ w.cell? ⟨b, 8, none⟩ = some (.int .u64 c.tag) := by
  simpa [IsCl] using h
theorem IsCl.of0 {b : Nat} {c : Cl} (h0 : w.cell? ⟨b, 0, none⟩ = some (.int .i64 c.firm)) (h1 : w.cell? ⟨b, 1, none⟩ = some (.int .i64 c.seq)) (h2 : w.cell? ⟨b, 2, none⟩ = some (.int .i64 c.time))
    (h3 : w.cell? ⟨b, 3, none⟩ = some (.int .i64 c.kind)) (h4 : w.cell? ⟨b, 4, none⟩ = some (.int .i64 c.a)) (h5 : w.cell? ⟨b, 5, none⟩ = some (.int .u64 c.ref))
    (h6 : w.cell? ⟨b, 6, none⟩ = some (.int .u64 c.aux)) (h7 : w.cell? ⟨b, 7, none⟩ = some (.int .u64 c.prev)) (h8 : w.cell? ⟨b, 8, none⟩ = some (.int .u64 c.tag)) : IsCl w b 0 c :=
  ⟨h0, h1, h2, h3, h4, h5, h6, h7, h8⟩
theorem IsCl.block {b : Nat} {c : Cl} {t : TypeId} {fr : Nat × Nat} (h : w.heap[b]? = some (.cells (#[.int .i64 c.firm, .int .i64 c.seq, .int .i64 c.time, .int .i64 c.kind, .int .i64 c.a, .int .u64 c.ref, .int .u64 c.aux, .int .u64 c.prev, .int .u64 c.tag]) t fr)) : IsCl w b 0 c := by
  simp [IsCl, World.cell?, h]
theorem SlC.none_ : SlC w B A 0 [] := ⟨rfl, fun h => absurd h (by omega)⟩
theorem SlC.at_ {k : Nat} (h : SlC w B A n xs) (hk : k < n) : ∃ b off c, A = some ⟨b, off, none⟩ ∧ b < B ∧ xs[k]? = some c ∧ IsCl w b (off + k * 9) c := by
  obtain ⟨b, off, e, hb, hc⟩ := h.2 (by omega)
  have hl : k < xs.length := by have := h.1; omega
  exact ⟨b, off, xs[k], e, hb, List.getElem?_eq_getElem hl, hc k _ (List.getElem?_eq_getElem hl)⟩
theorem SlC.keep (h : SlC w B A n xs) (hk : ∀ p : Addr, p.block < B → w'.cell? p = w.cell? p) : SlC w' B A n xs :=
  ⟨h.1, fun hn => by
    obtain ⟨b, off, e, hb, hc⟩ := h.2 hn
    exact ⟨b, off, e, hb, fun k c hu => (hc k c hu).keep fun o => hk ⟨b, o, none⟩ hb⟩⟩
theorem SlC.more (h : SlC w B A n xs) (hB : B ≤ B') : SlC w B' A n xs :=
  ⟨h.1, fun hn => by
    obtain ⟨b, off, e, hb, hc⟩ := h.2 hn
    exact ⟨b, off, e, by omega, hc⟩⟩
theorem SlC.below (h : SlC w B A n xs) (hb : Below B w w') : SlC w' B A n xs := h.keep fun _ hp => hb.cell hp
theorem SlC.alloc (h : SlC w B A n xs) (hB : B ≤ w.heap.size) (o : Obj) : SlC (w.alloc o) B A n xs := h.keep fun p hp => World.cell?_alloc_lt w o p (by omega)
theorem SlC.take (h : SlC w B A n xs) {k : Nat} (hk : k ≤ n) : SlC w B A k (xs.take k) := by
  refine ⟨by rw [List.length_take, h.1]; omega, fun hn => ?_⟩
  obtain ⟨b, off, e, hb, hc⟩ := h.2 (by omega)
  refine ⟨b, off, e, hb, fun j c hj => hc j c ?_⟩
  rw [List.getElem?_take] at hj
  split at hj
  · exact hj
  · cases hj
end

theorem neq_same (c : Cl) (W : World) : (binOp .neq 29 (.agg #[.int .i64 c.firm, .int .i64 c.seq, .int .i64 c.time, .int .i64 c.kind, .int .i64 c.a, .int .u64 c.ref, .int .u64 c.aux, .int .u64 c.prev, .int .u64 c.tag]) (.agg #[.int .i64 c.firm, .int .i64 c.seq, .int .i64 c.time, .int .i64 c.kind, .int .i64 c.a, .int .u64 c.ref, .int .u64 c.aux, .int .u64 c.prev, .int .u64 c.tag])).run Try.prog W = .ok (.bool false) W := by
  have u3 := Try.underlying3
  have u27 := Try.underlying27
  have hS : Try.prog.underlying 29 = some (.struct (Try.prog.fieldsOf 29)) := by kernel_rfl
  have hp : Try.prog.stoodInHeld 29 = false := by kernel_rfl
  rw [run_neq_struct, show (10000 : Nat) = 9999 + 1 from rfl, run_equalIn_agg W 9999 29 _ _ hS hp]
  simp only [Program.fieldsOf, Try.underlying29]
  go_simp
theorem neq_other (c d : Cl) (h : c ≠ d) (W : World) : (binOp .neq 29 (.agg #[.int .i64 c.firm, .int .i64 c.seq, .int .i64 c.time, .int .i64 c.kind, .int .i64 c.a, .int .u64 c.ref, .int .u64 c.aux, .int .u64 c.prev, .int .u64 c.tag]) (.agg #[.int .i64 d.firm, .int .i64 d.seq, .int .i64 d.time, .int .i64 d.kind, .int .i64 d.a, .int .u64 d.ref, .int .u64 d.aux, .int .u64 d.prev, .int .u64 d.tag])).run Try.prog W = .ok (.bool true) W := by
  have u3 := Try.underlying3
  have u27 := Try.underlying27
  have hS : Try.prog.underlying 29 = some (.struct (Try.prog.fieldsOf 29)) := by kernel_rfl
  have hp : Try.prog.stoodInHeld 29 = false := by kernel_rfl
  rw [run_neq_struct, show (10000 : Nat) = 9999 + 1 from rfl, run_equalIn_agg W 9999 29 _ _ hS hp]
  simp only [Program.fieldsOf, Try.underlying29]
  go_simp
  obtain ⟨a0, a1, a2, a3, a4, a5, a6, a7, a8⟩ := c
  obtain ⟨b0, b1, b2, b3, b4, b5, b6, b7, b8⟩ := d
  simp only [ne_eq, Cl.mk.injEq] at h ⊢
  intro e0 e1 e2 e3 e4 e5 e6 e7 e8
  exact h ⟨e0, e1, e2, e3, e4, e5, e6, e7, e8⟩

/-- The first place at which two chains differ. -/
def forkF : List Cl → List Cl → Option Nat
  | x :: xs, y :: ys => if x = y then (forkF xs ys).map (· + 1) else some 0
  | _, _ => none
def orZero (o : Option Nat) : Int := ((o.getD 0 : Nat) : Int)
theorem forkF_hit (xs ys : List Cl) (k : Nat) (x y : Cl) (h : xs.take k = ys.take k) (hx : xs[k]? = some x) (hy : ys[k]? = some y) (hne : x ≠ y) : forkF xs ys = some k := by
  induction k generalizing xs ys with
  | zero =>
    cases xs with
    | nil => simp at hx
    | cons a xs =>
      cases ys with
      | nil => simp at hy
      | cons b ys =>
        simp only [List.getElem?_cons_zero, Option.some.injEq] at hx hy
        subst hx hy
        simp [forkF, hne]
  | succ k ih =>
    cases xs with
    | nil => simp at hx
    | cons a xs =>
      cases ys with
      | nil => simp at hy
      | cons b ys =>
        simp only [List.take_succ_cons, List.cons.injEq] at h
        simp only [List.getElem?_cons_succ] at hx hy
        obtain ⟨rfl, h⟩ := h
        simp [forkF, ih xs ys h hx hy]
theorem forkF_miss (xs ys : List Cl) (k : Nat) (h : xs.take k = ys.take k) (hk : xs.length ≤ k ∨ ys.length ≤ k) : forkF xs ys = none := by
  induction k generalizing xs ys with
  | zero =>
    cases xs with
    | nil => simp [forkF]
    | cons a xs =>
      cases ys with
      | nil => simp [forkF]
      | cons b ys => simp at hk
  | succ k ih =>
    cases xs with
    | nil => simp [forkF]
    | cons a xs =>
      cases ys with
      | nil => simp [forkF]
      | cons b ys =>
        simp only [List.take_succ_cons, List.cons.injEq] at h
        obtain ⟨rfl, h⟩ := h
        simp only [List.length_cons, Nat.add_le_add_iff_right] at hk
        simp [forkF, ih xs ys h hk]
theorem take_more {xs ys : List Cl} {k : Nat} {x : Cl} (h : xs.take k = ys.take k) (hx : xs[k]? = some x) (hy : ys[k]? = some x) : xs.take (k + 1) = ys.take (k + 1) := by
  have hk : k < xs.length := (List.getElem?_eq_some_iff.1 hx).1
  have hk' : k < ys.length := (List.getElem?_eq_some_iff.1 hy).1
  rw [List.take_succ_eq_append_getElem hk, List.take_succ_eq_append_getElem hk', h, (List.getElem?_eq_some_iff.1 hx).2, (List.getElem?_eq_some_iff.1 hy).2]
theorem below_drewN {B : Nat} {a w : World} (h : Below B a w) (n : Nat) : Below B a (w.drewN n) := ⟨h.os, h.tape, h.output, h.size, h.block⟩

def ForkPost (o : Option Nat) (w : World) (e : Ending) (w' : World) : Prop := e = .returned (.tuple #[.int .i64 (orZero o), .bool o.isSome]) ∧ ∃ q, w' = w.drewN q

set_option maxHeartbeats 400000 in
theorem fork_lt (A B : Option Addr) (n m ca cb : Nat) (xs ys : List Cl) (w : World) (ha : SlC w w.heap.size A n xs) (hb : SlC w w.heap.size B m ys) (hn : n ≤ 100000) (hm : m ≤ 100000) (hlo : m < n) :
    Calls Try.prog 45 #[.slice A n ca, .slice B m cb] w (ForkPost (forkF xs ys) w) := by
  have Ha := hide ha; clear ha
  have Hb := hide hb; clear hb
  have Ns := @neq_same
  go_enter Try.func45, Try.ntmps45
  go_wp2
  go_loopw [12] (fun i wr => ∃ k : Nat, k ≤ m ∧ i = .int .i64 k ∧ xs.take k = ys.take k ∧ ∃ q, wr = w.drewN q) (fun i _ => m - (intOf i).toNat)
  case atStart => exact ⟨0, by omega, rfl, rfl, 0, rfl⟩
  case round =>
    obtain ⟨k, hk, rfl, heq, q, rfl⟩ := hrel
    have Heq := hide heq; clear heq
    by_cases hlt : k < m
    · obtain ⟨b1, o1, c, rfl, hb1, hx, g0, g1, g2, g3, g4, g5, g6, g7, g8⟩ := Ha.out.at_ (k := k) (by omega)
      obtain ⟨b2, o2, d, rfl, hb2, hy, f0, f1, f2, f3, f4, f5, f6, f7, f8⟩ := Hb.out.at_ (k := k) (by omega)
      have Hx := hide hx; clear hx
      have Hy := hide hy; clear hy
      clear hb1 hb2
      have kn : (k : Int) < n := by omega
      have km : (k : Int) < m := by omega
      by_cases hcd : c = d
      · subst hcd
        go_wp2
        go_quiet (fail)
        go_wp2
        go_roundw
        case rel => exact ⟨k + 1, by omega, by go_num, take_more Heq.out Hx.out Hy.out, _, rfl⟩
        case measure => simp [intOf]; omega
      · have No := neq_other c d hcd
        clear Ns
        have Hcd := hide hcd; clear hcd
        go_wp2
        go_quiet (fail)
        go_wp2
        go_ret2
        refine ⟨?_, _, World.drewN_drewN _ _ _⟩
        rw [forkF_hit xs ys k c d Heq.out Hx.out Hy.out Hcd.out]; rfl
    · go_wp2
      go_ret2
      refine ⟨?_, _, rfl⟩
      rw [forkF_miss xs ys k Heq.out (by have h1 := Ha.out.1; have h2 := Hb.out.1; omega)]; rfl

set_option maxHeartbeats 400000 in
theorem fork_ge (A B : Option Addr) (n m ca cb : Nat) (xs ys : List Cl) (w : World) (ha : SlC w w.heap.size A n xs) (hb : SlC w w.heap.size B m ys) (hn : n ≤ 100000) (hm : m ≤ 100000) (hlo : n ≤ m) :
    Calls Try.prog 45 #[.slice A n ca, .slice B m cb] w (ForkPost (forkF xs ys) w) := by
  have Ha := hide ha; clear ha
  have Hb := hide hb; clear hb
  have Ns := @neq_same
  go_enter Try.func45, Try.ntmps45
  go_wp2
  go_loopw [12] (fun i wr => ∃ k : Nat, k ≤ n ∧ i = .int .i64 k ∧ xs.take k = ys.take k ∧ ∃ q, wr = w.drewN q) (fun i _ => n - (intOf i).toNat)
  case atStart => exact ⟨0, by omega, rfl, rfl, 0, rfl⟩
  case round =>
    obtain ⟨k, hk, rfl, heq, q, rfl⟩ := hrel
    have Heq := hide heq; clear heq
    by_cases hlt : k < n
    · obtain ⟨b1, o1, c, rfl, hb1, hx, g0, g1, g2, g3, g4, g5, g6, g7, g8⟩ := Ha.out.at_ (k := k) (by omega)
      obtain ⟨b2, o2, d, rfl, hb2, hy, f0, f1, f2, f3, f4, f5, f6, f7, f8⟩ := Hb.out.at_ (k := k) (by omega)
      have Hx := hide hx; clear hx
      have Hy := hide hy; clear hy
      clear hb1 hb2
      have kn : (k : Int) < n := by omega
      have km : (k : Int) < m := by omega
      by_cases hcd : c = d
      · subst hcd
        go_wp2
        go_quiet (fail)
        go_wp2
        go_roundw
        case rel => exact ⟨k + 1, by omega, by go_num, take_more Heq.out Hx.out Hy.out, _, rfl⟩
        case measure => simp [intOf]; omega
      · have No := neq_other c d hcd
        clear Ns
        have Hcd := hide hcd; clear hcd
        go_wp2
        go_quiet (fail)
        go_wp2
        go_ret2
        refine ⟨?_, _, World.drewN_drewN _ _ _⟩
        rw [forkF_hit xs ys k c d Heq.out Hx.out Hy.out Hcd.out]; rfl
    · go_wp2
      go_ret2
      refine ⟨?_, _, rfl⟩
      rw [forkF_miss xs ys k Heq.out (by have h1 := Ha.out.1; have h2 := Hb.out.1; omega)]; rfl

theorem fork_any (A B : Option Addr) (n m ca cb : Nat) (xs ys : List Cl) (w : World) (ha : SlC w w.heap.size A n xs) (hb : SlC w w.heap.size B m ys) (hn : n ≤ 100000) (hm : m ≤ 100000) :
    Calls Try.prog 45 #[.slice A n ca, .slice B m cb] w (ForkPost (forkF xs ys) w) := by
  rcases Nat.lt_or_ge m n with h | h
  · exact fork_lt A B n m ca cb xs ys w ha hb hn hm h
  · exact fork_ge A B n m ca cb xs ys w ha hb hn hm h
end Go.Proofs.Ythpbjceajnaokaa
