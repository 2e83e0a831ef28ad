/- The fixed examples are as the document says. No condition. -/
import Derived.Test.YthpbjceajnaokaaExP
namespace Go.Proofs.Ythpbjceajnaokaa
open Go.RowKit

/-- The two chains of the examples, as they lie. -/
def ExSt (wr : World) (b1 b2 : Nat) (A1 : Option Addr) (c1 g o c2 : Nat) : Prop :=
  wr.cell? ⟨b1, 0, none⟩ = some (.slice A1 1 c1) ∧ wr.cell? ⟨b1, 1, none⟩ = some (.int .i64 0) ∧ wr.cell? ⟨b2, 0, none⟩ = some (.slice (some ⟨g, o, none⟩) 2 c2) ∧ wr.cell? ⟨b2, 1, none⟩ = some (.int .i64 0) ∧
  SlC wr wr.heap.size A1 1 [d1] ∧ SlC wr wr.heap.size (some ⟨g, o, none⟩) 2 [d1, d2]
theorem ExSt.below {w w' : World} {b1 b2 : Nat} {A1 : Option Addr} {c1 g o c2 : Nat} (h : ExSt w b1 b2 A1 c1 g o c2) (hb : Below w.heap.size w w') : ExSt w' b1 b2 A1 c1 g o c2 := by
  obtain ⟨h1, h2, h3, h4, h5, h6⟩ := h
  have l1 := World.block_lt_of_cell? w _ h1
  have l2 := World.block_lt_of_cell? w _ h3
  exact ⟨(hb.cell (p := ⟨b1, 0, none⟩) l1).trans h1, (hb.cell (p := ⟨b1, 1, none⟩) l1).trans h2, (hb.cell (p := ⟨b2, 0, none⟩) l2).trans h3, (hb.cell (p := ⟨b2, 1, none⟩) l2).trans h4, (h5.below hb).more hb.size, (h6.below hb).more hb.size⟩
theorem pair_cells (w : World) (v0 v1 : Value) (V : World) (hV : V = w.alloc (.cells #[v0, v1] 38)) :
    V.cell? ⟨w.heap.size, 0, none⟩ = some v0 ∧ V.cell? ⟨w.heap.size, 1, none⟩ = some v1 ∧ Below w.heap.size w V ∧ V.heap.size = w.heap.size + 1 := by
  subst hV
  have n0 := heap_alloc_new w (.cells #[v0, v1] 38)
  exact ⟨by simp only [World.cell?, n0]; rfl, by simp only [World.cell?, n0]; rfl, (Below.refl _ w).alloc (Nat.le_refl _) _, by simp⟩

/-- The cells of the two claims. -/
def ExCl (W : World) (g o : Nat) : Prop :=
  (W.cell? ⟨g, o, none⟩ = some (.int .i64 2) ∧ W.cell? ⟨g, o + 1, none⟩ = some (.int .i64 1) ∧ W.cell? ⟨g, o + 2, none⟩ = some (.int .i64 5) ∧ W.cell? ⟨g, o + 3, none⟩ = some (.int .i64 1) ∧ W.cell? ⟨g, o + 4, none⟩ = some (.int .i64 7) ∧
    W.cell? ⟨g, o + 5, none⟩ = some (.int .u64 0) ∧ W.cell? ⟨g, o + 6, none⟩ = some (.int .u64 0) ∧ W.cell? ⟨g, o + 7, none⟩ = some (.int .u64 0) ∧ W.cell? ⟨g, o + 8, none⟩ = some (.int .u64 11741137231567739398)) ∧
  (W.cell? ⟨g, o + 9, none⟩ = some (.int .i64 2) ∧ W.cell? ⟨g, o + 9 + 1, none⟩ = some (.int .i64 2) ∧ W.cell? ⟨g, o + 9 + 2, none⟩ = some (.int .i64 9) ∧ W.cell? ⟨g, o + 9 + 3, none⟩ = some (.int .i64 4) ∧ W.cell? ⟨g, o + 9 + 4, none⟩ = some (.int .i64 1) ∧
    W.cell? ⟨g, o + 9 + 5, none⟩ = some (.int .u64 0) ∧ W.cell? ⟨g, o + 9 + 6, none⟩ = some (.int .u64 0) ∧ W.cell? ⟨g, o + 9 + 7, none⟩ = some (.int .u64 5605037837742186124) ∧ W.cell? ⟨g, o + 9 + 8, none⟩ = some (.int .u64 2648633182160435366))
theorem ExSt.cl {W : World} {b1 b2 : Nat} {A1 : Option Addr} {c1 g o c2 : Nat} (h : ExSt W b1 b2 A1 c1 g o c2) : ExCl W g o := by
  obtain ⟨_, _, _, _, _, h6⟩ := h
  obtain ⟨b, off, c, ha, _, hx, hc⟩ := h6.at_ (k := 0) (by omega)
  simp only [Option.some.injEq, Addr.mk.injEq, and_true] at ha
  obtain ⟨rfl, rfl⟩ := ha
  obtain ⟨b, off, c', ha, _, hx', hc'⟩ := h6.at_ (k := 1) (by omega)
  simp only [Option.some.injEq, Addr.mk.injEq, and_true] at ha
  obtain ⟨rfl, rfl⟩ := ha
  simp only [List.getElem?_cons_zero, List.getElem?_cons_succ, Option.some.injEq] at hx hx'
  subst hx
  subst hx'
  rw [Nat.zero_mul, Nat.add_zero] at hc
  rw [Nat.one_mul] at hc'
  exact ⟨hc, hc'⟩
theorem ExCl.wd {w : World} {g o : Nat} (h : ExCl w g o) (p : Wd w) : ExCl p.w' g o := by
  obtain ⟨⟨a0, a1, a2, a3, a4, a5, a6, a7, a8⟩, e0, e1, e2, e3, e4, e5, e6, e7, e8⟩ := h
  exact ⟨⟨Wd.cell a0 p, Wd.cell a1 p, Wd.cell a2 p, Wd.cell a3 p, Wd.cell a4 p, Wd.cell a5 p, Wd.cell a6 p, Wd.cell a7 p, Wd.cell a8 p⟩, Wd.cell e0 p, Wd.cell e1 p, Wd.cell e2 p, Wd.cell e3 p, Wd.cell e4 p, Wd.cell e5 p, Wd.cell e6 p, Wd.cell e7 p, Wd.cell e8 p⟩

theorem field38_1 (v0 v1 : Value) (w : World) : (Instr.field 38 (.agg #[v0, v1]) 1).run Try.prog w = .ok v1 w := by kernel_rfl
theorem field46_1 (v0 v1 : Value) (w : World) : (Instr.field 46 (.agg #[v0, v1]) 1).run Try.prog w = .ok v1 w := by kernel_rfl
theorem ex_dig (w : World) : Calls Try.prog 16 #[.agg #[.int .i64 2, .int .i64 1, .int .i64 5, .int .i64 1, .int .i64 7, .int .u64 0, .int .u64 0, .int .u64 0, .int .u64 11741137231567739398]] w fun e w' => e = .returned (.int .u64 5605037837742186124) ∧ Below w.heap.size w w' := by
  have h := digest_any d1 w
  rw [ex_dig1] at h
  exact h
theorem ex_tag (w : World) : Calls Try.prog 18 #[.int .u64 9, .agg #[.int .i64 2, .int .i64 2, .int .i64 9, .int .i64 4, .int .i64 1, .int .u64 0, .int .u64 0, .int .u64 5605037837742186124, .int .u64 2648633182160435366]] w fun e w' => e = .returned (.int .u64 2648633182160435366) ∧ Below w.heap.size w w' := by
  have h := tag_any 9 d2 w
  rw [ex_tag2] at h
  exact h
theorem ex_check {A : Option Addr} {c : Nat} (key firm e : Int) (he : (if chkF key firm [d1, d2] then 0 else 410) = e) (w : World) (hs : SlC w w.heap.size A 2 [d1, d2]) :
    Calls Try.prog 20 #[.slice A 2 c, .int .u64 key, .int .i64 firm] w fun x w' => x = .returned (.int .i64 e) ∧ Below w.heap.size w w' := by
  have h := check_any A 2 c key firm [d1, d2] w hs (by omega)
  unfold ChkPost at h
  rw [he] at h
  exact h

/-- All that the last condition reads. -/
def Ex9 (W : World) (b1 b2 : Nat) (A1 : Option Addr) (c1 g o c2 bs b4 : Nat) : Prop :=
  ExSt W b1 b2 A1 c1 g o c2 ∧ SlS W W.heap.size (some ⟨bs, 0, none⟩) 1 [[d1, d2]] ∧ IsCl W b4 0 d1 ∧ b4 < W.heap.size
theorem Ex9.below {w w' : World} {b1 b2 : Nat} {A1 : Option Addr} {c1 g o c2 bs b4 : Nat} (h : Ex9 w b1 b2 A1 c1 g o c2 bs b4) (hb : Below w.heap.size w w') : Ex9 w' b1 b2 A1 c1 g o c2 bs b4 :=
  ⟨h.1.below hb, (h.2.1.below hb).more hb.size, h.2.2.1.keep (fun o => hb.cell (p := ⟨b4, o, none⟩) h.2.2.2), Nat.lt_of_lt_of_le h.2.2.2 hb.size⟩
theorem Ex9.sl {w w' : World} {b1 b2 : Nat} {A1 : Option Addr} {c1 g o c2 bs b4 : Nat} (h : Ex9 w b1 b2 A1 c1 g o c2 bs b4) (hb : Below w.heap.size w w') : SlS w' w'.heap.size (some ⟨bs, 0, none⟩) 1 [[d1, d2]] := (h.below hb).2.1
theorem Ex9.c1 {w w' : World} {b1 b2 : Nat} {A1 : Option Addr} {c1 g o c2 bs b4 : Nat} (h : Ex9 w b1 b2 A1 c1 g o c2 bs b4) (hb : Below w.heap.size w w') : SlC w' w'.heap.size A1 1 [d1] := (h.below hb).1.2.2.2.2.1
theorem Ex9.c2 {w w' : World} {b1 b2 : Nat} {A1 : Option Addr} {c1 g o c2 bs b4 : Nat} (h : Ex9 w b1 b2 A1 c1 g o c2 bs b4) (hb : Below w.heap.size w w') : SlC w' w'.heap.size (some ⟨g, o, none⟩) 2 [d1, d2] := (h.below hb).1.2.2.2.2.2
theorem Ex9.keep {w7 w' : World} {b1 b2 : Nat} {A1 : Option Addr} {c1 g o c2 bs b4 : Nat} (hb : Below w7.heap.size w7 w') (h : Ex9 w7 b1 b2 A1 c1 g o c2 bs b4) :
    w'.cell? ⟨b4, 0, none⟩ = some (.int .i64 2) ∧ w'.cell? ⟨b4, 1, none⟩ = some (.int .i64 1) ∧ w'.cell? ⟨b4, 2, none⟩ = some (.int .i64 5) ∧ w'.cell? ⟨b4, 3, none⟩ = some (.int .i64 1) ∧ w'.cell? ⟨b4, 4, none⟩ = some (.int .i64 7) ∧ w'.cell? ⟨b4, 5, none⟩ = some (.int .u64 0) ∧ w'.cell? ⟨b4, 6, none⟩ = some (.int .u64 0) ∧ w'.cell? ⟨b4, 7, none⟩ = some (.int .u64 0) ∧ w'.cell? ⟨b4, 8, none⟩ = some (.int .u64 11741137231567739398) ∧ w'.cell? ⟨g, o, none⟩ = some (.int .i64 2) ∧ w'.cell? ⟨g, o + 1, none⟩ = some (.int .i64 1) ∧ w'.cell? ⟨g, o + 2, none⟩ = some (.int .i64 5) ∧ w'.cell? ⟨g, o + 3, none⟩ = some (.int .i64 1) ∧ w'.cell? ⟨g, o + 4, none⟩ = some (.int .i64 7) ∧ w'.cell? ⟨g, o + 5, none⟩ = some (.int .u64 0) ∧ w'.cell? ⟨g, o + 6, none⟩ = some (.int .u64 0) ∧ w'.cell? ⟨g, o + 7, none⟩ = some (.int .u64 0) ∧ w'.cell? ⟨g, o + 8, none⟩ = some (.int .u64 11741137231567739398) ∧ w'.cell? ⟨b1, 0, none⟩ = some (.slice A1 1 c1) ∧ w'.cell? ⟨b2, 0, none⟩ = some (.slice (some ⟨g, o, none⟩) 2 c2) ∧ Below w7.heap.size w7 w' := by
  obtain ⟨h1, _, h3, _⟩ := h.below hb
  obtain ⟨p0, p1, p2, p3, p4, p5, p6, p7, p8⟩ := h3.at0
  obtain ⟨⟨q0, q1, q2, q3, q4, q5, q6, q7, q8⟩, _⟩ := h1.cl
  exact ⟨p0, p1, p2, p3, p4, p5, p6, p7, p8, q0, q1, q2, q3, q4, q5, q6, q7, q8, h1.1, h1.2.2.1, hb⟩
theorem slS_one {W : World} {A : Option Addr} {n c : Nat} {xs : List Cl} (hs : SlC W W.heap.size A n xs) (V : World) (hV : V = W.alloc (.cells #[.slice A n c] 33)) : SlS V V.heap.size (some ⟨W.heap.size, 0, none⟩) 1 [xs] ∧ Below W.heap.size W V := by
  subst hV
  have n0 := heap_alloc_new W (.cells #[.slice A n c] 33)
  refine ⟨⟨rfl, fun _ => ⟨_, 0, rfl, by simp, fun k ys hk => ?_⟩⟩, (Below.refl _ W).alloc (Nat.le_refl _) _⟩
  rcases k with _ | k
  · simp only [List.getElem?_cons_zero, Option.some.injEq] at hk
    subst hk
    have hl := hs.1
    subst hl
    exact ⟨A, c, by simp only [World.cell?, n0]; rfl, (hs.alloc (Nat.le_refl _) _).more (by simp)⟩
  · simp at hk
theorem ex_at_call {A : Option Addr} {c : Nat} (time : Int) (N : Nat) (h : (forcedL [[d1, d2]] time 1).flatten.length = N) (hN : N < 20) (w : World) (ha : SlS w w.heap.size A 1 [[d1, d2]]) :
    Calls Try.prog 30 #[.slice A 1 c, .int .i64 time] w fun e w' => ∃ A' c', e = .returned (.slice A' N c') ∧ Below w.heap.size w w' :=
  (at_small A 1 c time [[d1, d2]] w ha (by omega) ex_wf ex_short N h hN).mono fun _ _ ⟨A', c', h1, _, h2⟩ => ⟨A', c', h1, h2⟩
theorem ex_order_call {A : Option Addr} {c : Nat} (w : World) (ha : SlS w w.heap.size A 1 [[d1, d2]]) :
    Calls Try.prog 28 #[.slice A 1 c] w fun e w' => ∃ A' c', e = .returned (.slice A' 2 c') ∧ Below w.heap.size w w' :=
  (order_small A 1 c [[d1, d2]] w ha (by omega) 2 rfl (by omega)).mono fun _ _ ⟨A', c', h1, _, h2⟩ => ⟨A', c', h1, h2⟩
theorem ex_latest_call {A : Option Addr} {c : Nat} (w : World) (ha : SlS w w.heap.size A 1 [[d1, d2]]) :
    Calls Try.prog 26 #[.slice A 1 c, .int .i64 8, .int .i64 2, .int .i64 1, .int .i64 7] w fun e w' => e = .returned (.tuple #[.agg #[.int .i64 2, .int .i64 1, .int .i64 5, .int .i64 1, .int .i64 7, .int .u64 0, .int .u64 0, .int .u64 0, .int .u64 11741137231567739398], .bool true]) ∧ Below w.heap.size w w' := by
  have h := latest_of A 1 c 1 8 2 1 7 (insF (forcedL [[d1, d2]] 8 1).flatten) w (by omega) (fun W hb => at_small A 1 c 8 [[d1, d2]] W ((ha.below hb).more hb.size) (by omega) ex_wf ex_short 1 ex_len8 (by omega))
  unfold LatPost at h
  rw [ex_latest] at h
  exact h
theorem ex_merge_call {A B : Option Addr} {ca cb : Nat} (w : World) (ha : SlC w w.heap.size A 1 [d1]) (hb : SlC w w.heap.size B 2 [d1, d2]) :
    Calls Try.prog 22 #[.slice A 1 ca, .slice B 2 cb] w fun e w' => ∃ p k c, e = .returned (.agg #[.slice p k c, .int .i64 0]) ∧ Below w.heap.size w w' :=
  (merge_any A B 1 2 ca cb [d1] [d1, d2] w ha hb (by omega) (by omega)).mono fun _ _ ⟨p, k, c, er, h1, h2, h3⟩ => by
    have hf : (forkF [d1] [d1, d2]).isSome = false := by rw [ex_fork]; rfl
    rcases h2 with h2 | h2 | h2
    · rw [hf] at h2; exact absurd h2.1 (by decide)
    · obtain ⟨_, _, _, _, _, rfl⟩ := h2; exact ⟨p, k, c, h1, h3⟩
    · obtain ⟨_, _, _, _, _, rfl⟩ := h2; exact ⟨p, k, c, h1, h3⟩
theorem ex_fork_call {A B : Option Addr} {ca cb : Nat} (w : World) (ha : SlC w w.heap.size A 1 [d1]) (hb : SlC w w.heap.size B 2 [d1, d2]) :
    Calls Try.prog 24 #[.slice A 1 ca, .slice B 2 cb] w fun e w' => e = .returned (.agg #[.int .i64 0, .bool false]) ∧ Below w.heap.size w w' := by
  have h := forked_any A B 1 2 ca cb [d1] [d1, d2] w ha hb (by omega) (by omega)
  unfold ForkedPost at h
  rw [ex_fork] at h
  exact h
theorem ex_eql (W : World) : (binOp .eql 29 (.agg #[.int .i64 2, .int .i64 1, .int .i64 5, .int .i64 1, .int .i64 7, .int .u64 0, .int .u64 0, .int .u64 0, .int .u64 11741137231567739398]) (.agg #[.int .i64 2, .int .i64 1, .int .i64 5, .int .i64 1, .int .i64 7, .int .u64 0, .int .u64 0, .int .u64 0, .int .u64 11741137231567739398])).run Try.prog W = .ok (.bool true) W := by kernel_rfl

set_option maxRecDepth 100000 in
set_option maxHeartbeats 2000000 in
theorem examples_any (w : World) : Calls Try.prog 9 #[] w fun e w' => e = .returned (.bool true) ∧ Below w.heap.size w w' := by
  have hfd := field38_1
  have hfe := field46_1
  go_enter Try.func9, Try.ntmps9
  go_upto_region 3 with (fail)
  refine (add_any none 0 0 9 [] ex1 _ SlC.none_ (by omega)).mono ?_
  rintro e w1 ⟨hb1, A1, n1, c1, ys1, er1, rfl, h1, -⟩
  obtain ⟨hs1, rfl, rfl⟩ := ex_add1 h1
  clear h1 ys1
  have Hs1 := hide hs1; clear hs1
  have Hb1 := hide hb1; clear hb1
  go_upto_region 3 with (fail)
  obtain ⟨V1, hV1⟩ : ∃ V, V = w1.alloc (.cells #[.slice A1 1 c1, .int .i64 0] 38) := ⟨_, rfl⟩
  rw [← hV1]
  obtain ⟨v0, v1, vb, vz⟩ := pair_cells w1 _ _ V1 hV1
  clear hV1
  have Hs2 := hide ((Hs1.out.below vb).more vb.size); clear Hs1
  have Hb2 := hide (Hb1.out.trans (vb.mono Hb1.out.size)); clear Hb1
  clear vb
  refine (add_any A1 1 c1 9 [d1] ex2 V1 Hs2.out (by omega)).mono ?_
  rintro e w2 ⟨hb2, A2, n2, c2, ys2, er2, rfl, h2, -⟩
  obtain ⟨hs2, rfl, rfl⟩ := ex_add2 h2
  clear h2 ys2
  obtain ⟨g, o, hA2⟩ : ∃ g o, A2 = some ⟨g, o, none⟩ := by
    obtain ⟨b, off, c, h, _⟩ := hs2.at_ (k := 0) (by omega)
    exact ⟨b, off, h⟩
  subst hA2
  have Hs3 := hide hs2; clear hs2
  have Hb3 := hide hb2; clear hb2
  go_upto_region 3 with (fail)
  obtain ⟨V2, hV2⟩ : ∃ V, V = w2.alloc (.cells #[.slice (some ⟨g, o, none⟩) 2 c2, .int .i64 0] 38) := ⟨_, rfl⟩
  rw [← hV2]
  obtain ⟨x0, x1, xb, xz⟩ := pair_cells w2 _ _ V2 hV2
  clear hV2
  have st2 : ExSt V2 w1.heap.size w2.heap.size A1 c1 g o c2 := by
    have t1 : w1.heap.size < w2.heap.size := by have := Hb3.out.size; omega
    refine ⟨(xb.cell (p := ⟨w1.heap.size, 0, none⟩) t1).trans ((Hb3.out.cell (p := ⟨w1.heap.size, 0, none⟩) (by show w1.heap.size < _; omega)).trans v0), (xb.cell (p := ⟨w1.heap.size, 1, none⟩) t1).trans ((Hb3.out.cell (p := ⟨w1.heap.size, 1, none⟩) (by show w1.heap.size < _; omega)).trans v1), x0, x1, ?_, ?_⟩
    · exact ((((Hs2.out.below Hb3.out).more Hb3.out.size).below xb).more xb.size)
    · exact (Hs3.out.below xb).more xb.size
  have hb2 : Below w.heap.size w V2 := Hb2.out.trans ((Hb3.out.trans (xb.mono Hb3.out.size)).mono Hb2.out.size)
  have HB2 := hide hb2; clear hb2
  have St2 := hide st2; clear st2
  obtain ⟨b1, hb1⟩ : ∃ b, w1.heap.size = b := ⟨_, rfl⟩
  obtain ⟨b2, hb2⟩ : ∃ b, w2.heap.size = b := ⟨_, rfl⟩
  rw [hb1, hb2] at St2
  rw [hb1, hb2]
  clear x0 x1 xb xz v0 v1 vz Hs2 Hb2 Hs3 Hb3 hb1 hb2 V1 w2 w1
  simp only [List.append_eq, List.cons_append, List.nil_append]
  have Gc := fun p : Wd V2 => St2.out.below p.h
  have G1 := fun p : Wd V2 => (Gc p).1
  have G2 := fun p : Wd V2 => (Gc p).2.1
  have G3 := fun p : Wd V2 => (Gc p).2.2.1
  have G4 := fun p : Wd V2 => (Gc p).2.2.2.1
  have L0 := fun p : Wd V2 => (Gc p).cl.1.1
  have L1 := fun p : Wd V2 => (Gc p).cl.1.2.1
  have L2 := fun p : Wd V2 => (Gc p).cl.1.2.2.1
  have L3 := fun p : Wd V2 => (Gc p).cl.1.2.2.2.1
  have L4 := fun p : Wd V2 => (Gc p).cl.1.2.2.2.2.1
  have L5 := fun p : Wd V2 => (Gc p).cl.1.2.2.2.2.2.1
  have L6 := fun p : Wd V2 => (Gc p).cl.1.2.2.2.2.2.2.1
  have L7 := fun p : Wd V2 => (Gc p).cl.1.2.2.2.2.2.2.2.1
  have L8 := fun p : Wd V2 => (Gc p).cl.1.2.2.2.2.2.2.2.2
  have M0 := fun p : Wd V2 => (Gc p).cl.2.1
  have M1 := fun p : Wd V2 => (Gc p).cl.2.2.1
  have M2 := fun p : Wd V2 => (Gc p).cl.2.2.2.1
  have M3 := fun p : Wd V2 => (Gc p).cl.2.2.2.2.1
  have M4 := fun p : Wd V2 => (Gc p).cl.2.2.2.2.2.1
  have M5 := fun p : Wd V2 => (Gc p).cl.2.2.2.2.2.2.1
  have M6 := fun p : Wd V2 => (Gc p).cl.2.2.2.2.2.2.2.1
  have M7 := fun p : Wd V2 => (Gc p).cl.2.2.2.2.2.2.2.2.1
  have M8 := fun p : Wd V2 => (Gc p).cl.2.2.2.2.2.2.2.2.2
  have Kd := fun p : Wd V2 => hide (ex_dig p.w')
  have Kt := fun p : Wd V2 => hide (ex_tag p.w')
  have Kc1 := fun p : Wd V2 => hide (ex_check (A := some ⟨g, o, none⟩) (c := c2) 9 2 0 (by rw [ex_chk2]; rfl) p.w' (Gc p).2.2.2.2.2)
  have Kc2 := fun p : Wd V2 => hide (ex_check (A := some ⟨g, o, none⟩) (c := c2) 9 1 410 (by rw [ex_chk3]; rfl) p.w' (Gc p).2.2.2.2.2)
  have Kc3 := fun p : Wd V2 => hide (ex_check (A := some ⟨g, o, none⟩) (c := c2) 8 2 410 (by rw [ex_chk4]; rfl) p.w' (Gc p).2.2.2.2.2)
  clear Gc
  refine wp_region_grew (by kernel_rfl) (by kernel_rfl) ?_
  iterate 60 (go_big_quiet_step (first | (go_at_call 16; exact grew_of (Kd _).out) | (go_at_call 18; exact grew_of (Kt _).out) | (go_at_call 20; exact grew_of (Kc1 _).out)))
  iterate 6 (go_big_quiet_step ((go_at_call 20; exact grew_of (Kc2 _).out)))
  iterate 8 (go_big_quiet_step ((go_at_call 20; exact grew_of (Kc3 _).out)))
  refine wpQuiet_nil ?_
  intro w3 hw3
  obtain ⟨⟨w3, hb3⟩, rfl⟩ := hw3
  clear G1 G2 G3 G4 L0 L1 L2 L3 L4 L5 L6 L7 L8 M0 M1 M2 M3 M4 M5 M6 M7 M8 Kd Kt Kc1 Kc2 Kc3
  have St3 := hide (St2.out.below hb3); clear St2
  have HB3 := hide (HB2.out.trans (hb3.mono HB2.out.size)); clear HB2 hb3 V2
  have st3 := St3.out
  obtain ⟨g1, g2, g3, g4, hs1, hs2⟩ := st3
  have Hs2 := hide hs2; clear hs2 hs1
  go_wp2_with fail
  refine (add_any _ 2 c2 9 [d1, d2] ex2 _ Hs2.out (by omega)).mono ?_
  rintro e w4 ⟨hb4, A4, n4, c4, ys4, er4, rfl, h4, -⟩
  obtain rfl := ex_add3 h4
  clear h4
  have St4 := hide (St3.out.below hb4)
  have HB4 := hide (HB3.out.trans (hb4.mono HB3.out.size))
  clear hb4 HB3 Hs2 g1 g2 g3 g4 St3
  have st4 := St4.out
  obtain ⟨g1, g2, g3, g4, hs1, hs2⟩ := st4
  have Hs2 := hide hs2; clear hs2 hs1
  go_wp2_with fail
  refine (add_any _ 2 c2 9 [d1, d2] ex4 _ Hs2.out (by omega)).mono ?_
  rintro e w5 ⟨hb5, A5, n5, c5, ys5, er5, rfl, h5, -⟩
  obtain rfl := ex_add4 h5
  clear h5
  have St5 := hide (St4.out.below hb5)
  have HB5 := hide (HB4.out.trans (hb5.mono HB4.out.size))
  clear hb5 HB4 Hs2 g1 g2 g3 g4 St4
  have st5 := St5.out
  obtain ⟨g1, g2, g3, g4, hs1, hs2⟩ := st5
  have Hs2 := hide hs2; clear hs2 hs1
  go_wp2_with fail
  obtain ⟨V6, hV6⟩ : ∃ V, V = w5.alloc (.cells #[.slice (some ⟨g, o, none⟩) 2 c2] 33) := ⟨_, rfl⟩
  rw [← hV6]
  obtain ⟨sl6, hb6⟩ := slS_one Hs2.out V6 hV6
  clear hV6
  have St6 := hide (St5.out.below hb6)
  have HB6 := hide (HB5.out.trans (hb6.mono HB5.out.size))
  obtain ⟨bs, hbs⟩ : ∃ b, w5.heap.size = b := ⟨_, rfl⟩
  rw [hbs] at sl6
  rw [hbs]
  have Sl6 := hide sl6
  clear hb6 sl6 HB5 Hs2 g1 g2 g3 g4 St5 hbs
  refine (ex_latest_call V6 Sl6.out).mono ?_
  rintro e w6 ⟨rfl, hb6⟩
  have St7 := hide (St6.out.below hb6)
  have HB7 := hide (HB6.out.trans (hb6.mono HB6.out.size))
  have Sl7 := hide ((Sl6.out.below hb6).more hb6.size)
  clear hb6 HB6 St6 Sl6
  go_upto_region 9 with (fail)
  obtain ⟨w7, hw7⟩ : ∃ V, V = w6.alloc (.cells #[.int .i64 2, .int .i64 1, .int .i64 5, .int .i64 1, .int .i64 7, .int .u64 0, .int .u64 0, .int .u64 0, .int .u64 11741137231567739398] 29) := ⟨_, rfl⟩
  obtain ⟨b4, hb4⟩ : ∃ b, w6.heap.size = b := ⟨_, rfl⟩
  have ex7 : Ex9 w7 b1 b2 A1 c1 g o c2 bs b4 := by
    have hb : Below w6.heap.size w6 w7 := by rw [hw7]; exact (Below.refl _ _).alloc (Nat.le_refl _) _
    refine ⟨St7.out.below hb, (Sl7.out.below hb).more hb.size, ?_, by rw [hw7, ← hb4]; simp⟩
    rw [hw7, ← hb4]
    exact IsCl.block (c := d1) (heap_alloc_new w6 _)
  have hb7 : Below w.heap.size w w7 := by rw [hw7]; exact HB7.out.alloc HB7.out.size _
  rw [← hw7, hb4]
  have Ex7 := hide ex7
  have HB8 := hide hb7
  clear ex7 hb7 hw7 hb4 HB7 St7 Sl7 w6 w5 V6
  have hfx := ex_eql
  have K4 := fun W h => ex_at_call (A := some ⟨bs, 0, none⟩) (c := 1) 4 0 ex_len4 (by omega) W h
  have K5 := fun W h => ex_at_call (A := some ⟨bs, 0, none⟩) (c := 1) 5 1 ex_len5 (by omega) W h
  have K8 := fun W h => ex_at_call (A := some ⟨bs, 0, none⟩) (c := 1) 8 1 ex_len8 (by omega) W h
  have K9 := fun W h => ex_at_call (A := some ⟨bs, 0, none⟩) (c := 1) 9 0 ex_len9 (by omega) W h
  have k4 := hide K4; clear K4
  have k5 := hide K5; clear K5
  have k8 := hide K8; clear K8
  have k9 := hide K9; clear K9
  go_region_held3 (fun w' => w'.cell? ⟨b4, 0, none⟩ = some (.int .i64 2) ∧ w'.cell? ⟨b4, 1, none⟩ = some (.int .i64 1) ∧ w'.cell? ⟨b4, 2, none⟩ = some (.int .i64 5) ∧ w'.cell? ⟨b4, 3, none⟩ = some (.int .i64 1) ∧ w'.cell? ⟨b4, 4, none⟩ = some (.int .i64 7) ∧ w'.cell? ⟨b4, 5, none⟩ = some (.int .u64 0) ∧ w'.cell? ⟨b4, 6, none⟩ = some (.int .u64 0) ∧ w'.cell? ⟨b4, 7, none⟩ = some (.int .u64 0) ∧ w'.cell? ⟨b4, 8, none⟩ = some (.int .u64 11741137231567739398) ∧ w'.cell? ⟨g, o, none⟩ = some (.int .i64 2) ∧ w'.cell? ⟨g, o + 1, none⟩ = some (.int .i64 1) ∧ w'.cell? ⟨g, o + 2, none⟩ = some (.int .i64 5) ∧ w'.cell? ⟨g, o + 3, none⟩ = some (.int .i64 1) ∧ w'.cell? ⟨g, o + 4, none⟩ = some (.int .i64 7) ∧ w'.cell? ⟨g, o + 5, none⟩ = some (.int .u64 0) ∧ w'.cell? ⟨g, o + 6, none⟩ = some (.int .u64 0) ∧ w'.cell? ⟨g, o + 7, none⟩ = some (.int .u64 0) ∧ w'.cell? ⟨g, o + 8, none⟩ = some (.int .u64 11741137231567739398) ∧ w'.cell? ⟨b1, 0, none⟩ = some (.slice A1 1 c1) ∧ w'.cell? ⟨b2, 0, none⟩ = some (.slice (some ⟨g, o, none⟩) 2 c2) ∧ Below w7.heap.size w7 w')
    ((go_split_ands; refine Ex9.keep ?_ Ex7.out; first | assumption | exact (Below.refl _ _).drew))
    (first
      | (go_at_call 30; go_split_ands; with_reducible refine (k4.out _ (Ex7.out.sl (by assumption))).mono ?_; rintro e w3 ⟨A3, c3, rfl, hb3⟩; have hB3 : Below w7.heap.size w7 w3 := Below.trans (by assumption) (hb3.mono (Below.size (by assumption))))
      | (go_at_call 30; go_split_ands; with_reducible refine (k5.out _ (Ex7.out.sl (by assumption))).mono ?_; rintro e w3 ⟨A3, c3, rfl, hb3⟩; have hB3 : Below w7.heap.size w7 w3 := Below.trans (by assumption) (hb3.mono (Below.size (by assumption))))
      | (go_at_call 30; go_split_ands; with_reducible refine (k8.out _ (Ex7.out.sl (by assumption))).mono ?_; rintro e w3 ⟨A3, c3, rfl, hb3⟩; have hB3 : Below w7.heap.size w7 w3 := Below.trans (by assumption) (hb3.mono (Below.size (by assumption))))
      | (go_at_call 30; go_split_ands; with_reducible refine (k9.out _ (Ex7.out.sl (by assumption))).mono ?_; rintro e w3 ⟨A3, c3, rfl, hb3⟩; have hB3 : Below w7.heap.size w7 w3 := Below.trans (by assumption) (hb3.mono (Below.size (by assumption))))
      | (go_at_call 28; go_split_ands; refine (ex_order_call _ (Ex7.out.sl (by assumption))).mono ?_; rintro e w3 ⟨A3, c3, rfl, hb3⟩; have hB3 : Below w7.heap.size w7 w3 := Below.trans (by assumption) (hb3.mono (Below.size (by assumption))))
      | (go_at_call 22; go_split_ands; refine (ex_merge_call _ (Ex7.out.c1 (by assumption)) (Ex7.out.c2 (by assumption))).mono ?_; rintro e w3 ⟨A3, k3, c3, rfl, hb3⟩; have hB3 : Below w7.heap.size w7 w3 := Below.trans (by assumption) (hb3.mono (Below.size (by assumption))))
      | (go_at_call 24; go_split_ands; refine (ex_fork_call _ (Ex7.out.c1 (by assumption)) (Ex7.out.c2 (by assumption))).mono ?_; rintro e w3 ⟨rfl, hb3⟩; have hB3 : Below w7.heap.size w7 w3 := Below.trans (by assumption) (hb3.mono (Below.size (by assumption))))
      | fail)
  all_goals
    go_wp2
    go_ret
    exact ⟨rfl, HB8.out.trans (hB3.mono HB8.out.size)⟩
end Go.Proofs.Ythpbjceajnaokaa
