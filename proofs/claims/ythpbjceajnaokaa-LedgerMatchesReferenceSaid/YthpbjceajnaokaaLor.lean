/- The walk of LedgerOrders. Condition: the arguments are readable. -/
import Derived.Test.YthpbjceajnaokaaOpl
import Derived.Test.YthpbjceajnaokaaExa
import Derived.Test.YthpbjceajnaokaaLap
import Derived.Deep.LoopGhost
import Derived.Deep.DeepCutAuto
namespace Go.Proofs.Ythpbjceajnaokaa
open Go.RowKit

/-- What stays as it is: the box, the chains, the order. -/
def TSt (w W : World) (B b o c3 : Nat) (xss : List (List Cl)) : Prop := RBox w W ∧ w.heap.size < W.heap.size ∧ Below w.heap.size w W ∧ SlT W B (some ⟨b, o, none⟩) 3 xss ∧ B ≤ W.heap.size ∧ 3 ≤ c3
theorem RBox.below {w wr wx : World} (h : RBox w wr) (hz : w.heap.size < wr.heap.size) (hb : Below wr.heap.size wr wx) : RBox w wx := by
  intro k hk
  obtain ⟨A, n, c, h1, h2⟩ := h k hk
  exact ⟨A, n, c, (hb.cell (p := ⟨w.heap.size, k, none⟩) hz).trans h1, h2⟩
theorem TSt.below {w W W' : World} {B b o c3 : Nat} {xss : List (List Cl)} (h : TSt w W B b o c3 xss) (hb : Below W.heap.size W W') : TSt w W' B b o c3 xss := by
  obtain ⟨h1, h2, h3, h4, h5, h6⟩ := h
  have := hb.size
  exact ⟨h1.below h2 hb, by omega, h3.trans (hb.mono h3.size), h4.below (hb.mono h5), by omega, h6⟩
/-- The header cells of the chains. -/
theorem TSt.cell {w W : World} {B b o c3 : Nat} {xss : List (List Cl)} (h : TSt w W B b o c3 xss) {k : Nat} (hk : k < 3) : ∃ xs A c, xss[k]? = some xs ∧ W.cell? ⟨b, o + k, none⟩ = some (.slice A xs.length c) ∧ SlC W B A xs.length xs ∧ xs.length ≤ c ∧ b < B := by
  obtain ⟨b', o', xs, A', c', e, hb, hx, h1, h2, h3⟩ := h.2.2.2.1.at_ hk
  injection e with e
  injection e with e1 e2
  subst e1 e2
  exact ⟨xs, A', c', hx, h1, h2, h3, hb⟩

theorem four_sl {W : World} {A0 A1 A2 : Option Addr} {k0 k1 k2 : Nat} {x0 x1 x2 : List Cl} (h0 : SlC W W.heap.size A0 x0.length x0) (h1 : SlC W W.heap.size A1 x1.length x1) (h2 : SlC W W.heap.size A2 x2.length x2) :
    SlS (W.alloc (.cells #[.slice A2 x2.length k2, .slice none 0 0, .slice A0 x0.length k0, .slice A1 x1.length k1] 33)) (W.heap.size + 1) (some ⟨W.heap.size, 0, none⟩) 4 [x2, [], x0, x1] := by
  have n := heap_alloc_new W (.cells #[.slice A2 x2.length k2, .slice none 0 0, .slice A0 x0.length k0, .slice A1 x1.length k1] 33)
  refine ⟨rfl, fun _ => ⟨W.heap.size, 0, rfl, Nat.lt_succ_self _, fun k xs hk => ?_⟩⟩
  have m : ∀ {A : Option Addr} {x : List Cl}, SlC W W.heap.size A x.length x → SlC (W.alloc (.cells #[.slice A2 x2.length k2, .slice none 0 0, .slice A0 x0.length k0, .slice A1 x1.length k1] 33)) (W.heap.size + 1) A x.length x := fun h => (h.alloc (Nat.le_refl _) _).more (Nat.le_succ _)
  rcases k with _ | _ | _ | _ | k
  · simp only [List.getElem?_cons_zero, Option.some.injEq] at hk
    subst hk
    exact ⟨A2, k2, by simp only [World.cell?, n]; rfl, m h2⟩
  · simp only [List.getElem?_cons_zero, List.getElem?_cons_succ, Option.some.injEq] at hk
    subst hk
    exact ⟨none, 0, by simp only [World.cell?, n]; rfl, SlC.none_⟩
  · simp only [List.getElem?_cons_zero, List.getElem?_cons_succ, Option.some.injEq] at hk
    subst hk
    exact ⟨A0, k0, by simp only [World.cell?, n]; rfl, m h0⟩
  · simp only [List.getElem?_cons_zero, List.getElem?_cons_succ, Option.some.injEq] at hk
    subst hk
    exact ⟨A1, k1, by simp only [World.cell?, n]; rfl, m h1⟩
  · simp at hk
theorem keep3 {w3 w' : World} {b o : Nat} {v0 v1 v2 : Value} (hb : Below w3.heap.size w3 w') (p0 : w3.cell? ⟨b, o, none⟩ = some v0) (p1 : w3.cell? ⟨b, o + 1, none⟩ = some v1) (p2 : w3.cell? ⟨b, o + 2, none⟩ = some v2) :
    w'.cell? ⟨b, o, none⟩ = some v0 ∧ w'.cell? ⟨b, o + 1, none⟩ = some v1 ∧ w'.cell? ⟨b, o + 2, none⟩ = some v2 ∧ Below w3.heap.size w3 w' := by
  have l := World.block_lt_of_cell? w3 _ p0
  exact ⟨(hb.cell (p := ⟨b, o, none⟩) l).trans p0, (hb.cell (p := ⟨b, o + 1, none⟩) l).trans p1, (hb.cell (p := ⟨b, o + 2, none⟩) l).trans p2, hb⟩

theorem cntF_le (O : List Cl) (i : Nat) (f : Int) : cntF O i f ≤ i := by
  unfold cntF
  have h1 := List.length_filter_le (fun c : Cl => c.firm == f) (O.take i)
  have h2 : (O.take i).length ≤ i := by rw [List.length_take]; omega
  omega
/-- The counters as they lie, behind whatever stood before. -/
def QSt (W5 W : World) (O : List Cl) (i : Nat) : Prop := (∀ j : Nat, j < 3 → W.cell? ⟨W5.heap.size, j, none⟩ = some (.int .i64 ((cntF O i (j : Int) : Nat) : Int))) ∧ (∀ o, W.frozen? ⟨W5.heap.size, o, none⟩ = false) ∧ W5.heap.size < W.heap.size ∧ Below W5.heap.size W5 W
theorem QSt.below {W5 W W' : World} {O : List Cl} {i : Nat} (h : QSt W5 W O i) (hb : Below W.heap.size W W') : QSt W5 W' O i := by
  obtain ⟨h1, h2, h3, h4⟩ := h
  have := hb.size
  exact ⟨fun j hj => (hb.cell (p := ⟨W5.heap.size, j, none⟩) h3).trans (h1 j hj), fun o => (hb.frozen (p := ⟨W5.heap.size, o, none⟩) h3).trans (h2 o), by omega, h4.trans (hb.mono (by omega))⟩
theorem QSt.start (W5 : World) (O : List Cl) : QSt W5 (W5.alloc (.cells #[.int .i64 0, .int .i64 0, .int .i64 0] 3)) O 0 := by
  have n := heap_alloc_new W5 (.cells #[.int .i64 0, .int .i64 0, .int .i64 0] 3)
  refine ⟨fun j hj => ?_, fun o => by go_simp, by simp, (Below.refl _ _).alloc (Nat.le_refl _) _⟩
  have e : cntF O 0 (j : Int) = 0 := by simp [cntF]
  rw [e]
  rcases j with _ | _ | _ | j
  · simp only [World.cell?, n]; rfl
  · simp only [World.cell?, n]; rfl
  · simp only [World.cell?, n]; rfl
  · omega
theorem QSt.step {W5 W : World} {O : List Cl} {i k : Nat} {c : Cl} (h : QSt W5 W O i) (hx : O[i]? = some c) (hk : k < 3) (hf : c.firm = (k : Int)) : QSt W5 (W.setCell ⟨W5.heap.size, k, none⟩ (.int .i64 ((cntF O i (k : Int) : Nat) + 1))) O (i + 1) := by
  obtain ⟨h1, h2, h3, h4⟩ := h
  refine ⟨fun j hj => ?_, fun o => by simp only [World.frozen?_setCell]; exact h2 o, by simpa using h3, h4.setCell (p := ⟨W5.heap.size, k, none⟩) (Nat.le_refl _) _⟩
  by_cases hjk : j = k
  · subst hjk
    rw [World.cell?_setCell_same' _ _ _ (by rw [h1 j hj]; rfl)]
    have := cntF_hit hx
    rw [hf] at this
    rw [this]; rfl
  · rw [World.cell?_setCell_other (h := fun e => hjk (by injection e with _ e; exact e.symm)), h1 j hj, cntF_miss hx (by rw [hf]; omega)]

set_option maxRecDepth 100000 in
set_option maxHeartbeats 4000000 in
theorem orders_walk (A0 A1 A2 : Option Addr) (n0 n1 n2 c0 c1 c2 : Nat) (w : World) (h0 : RawsAt w w.heap.size A0 n0) (h1 : RawsAt w w.heap.size A1 n1) (h2 : RawsAt w w.heap.size A2 n2) :
    Calls Try.prog 7 #[.agg #[.slice A0 n0 c0, .slice A1 n1 c1, .slice A2 n2 c2]] w fun e w' => e = .returned (.bool true) ∧ Below w.heap.size w w' := by
  have H := hide (And.intro h0 (And.intro h1 h2))
  have hbox := RBox.start (c0 := c0) (c1 := c1) (c2 := c2) h0 h1 h2
  have Hbx := hide hbox; clear h0 h1 h2 hbox
  go_enter Try.func7, Try.ntmps7
  go_upto_region 2 with (fail)
  refine (examples_any _).mono ?_
  rintro e w1 ⟨rfl, hb1⟩
  have g0 : w1.cell? ⟨w.heap.size, 0, none⟩ = some (.slice A0 n0 c0) := (hb1.cell (p := ⟨w.heap.size, 0, none⟩) (by simp)).trans (by rw [World.cell?_alloc_new]; rfl)
  have g1 : w1.cell? ⟨w.heap.size, 1, none⟩ = some (.slice A1 n1 c1) := (hb1.cell (p := ⟨w.heap.size, 1, none⟩) (by simp)).trans (by rw [World.cell?_alloc_new]; rfl)
  have g2 : w1.cell? ⟨w.heap.size, 2, none⟩ = some (.slice A2 n2 c2) := (hb1.cell (p := ⟨w.heap.size, 2, none⟩) (by simp)).trans (by rw [World.cell?_alloc_new]; rfl)
  have Hb1 := hide (((Below.refl _ w).alloc (Nat.le_refl _) (.cells #[.slice A0 n0 c0, .slice A1 n1 c1, .slice A2 n2 c2] 23)).trans (hb1.mono (by simp)))
  have Hz1 := hide (show w.heap.size < w1.heap.size by have := hb1.size; simp at this; omega)
  have Hbx1 := hide (Hbx.out.below (by simp) hb1)
  clear hb1 Hbx
  go_upto_region 5 with (fail)
  refine (chains_any A0 A1 A2 n0 n1 n2 c0 c1 c2 _ (H.out.1.keep (fun b o hb => Hb1.out.cell (p := ⟨b, o, none⟩) hb) Hb1.out.size) (H.out.2.1.keep (fun b o hb => Hb1.out.cell (p := ⟨b, o, none⟩) hb) Hb1.out.size) (H.out.2.2.keep (fun b o hb => Hb1.out.cell (p := ⟨b, o, none⟩) hb) Hb1.out.size)).mono ?_
  rintro e w2 ⟨ad, c3, xss, rfl, hsl2, hc3, hchn, hb2⟩
  obtain ⟨b, o, ead, hbb, -⟩ := hsl2.2 (by omega)
  injection ead with ead
  subst ead
  have T2 := hide (show TSt w w2 w2.heap.size b o c3 xss from ⟨Hbx1.out.below Hz1.out hb2, Nat.lt_of_lt_of_le Hz1.out hb2.size, Hb1.out.trans (hb2.mono (Nat.le_of_lt Hz1.out)), hsl2, Nat.le_refl _, hc3⟩)
  have Hchn := hide hchn
  have Hl := hide hsl2.1
  obtain ⟨B, hB⟩ : ∃ B, B = w2.heap.size := ⟨_, rfl⟩
  have hBw : B ≤ w2.heap.size := by omega
  rw [← hB] at T2
  clear hsl2 hchn hb2 g0 g1 g2 Hbx1 Hb1 Hz1 H hbb hB
  obtain ⟨x0, x1, x2, rfl⟩ := three_of Hl.out
  obtain ⟨tot, ht⟩ : ∃ t, x0.length + x1.length + x2.length = t := ⟨_, rfl⟩
  have hl0 := (Hchn.out 0 _ rfl).2
  have hl1 := (Hchn.out 1 _ rfl).2
  have hl2 := (Hchn.out 2 _ rfl).2
  have hf1 : [x0, x1, x2].flatten.length = tot := by simp; omega
  have hf2 : [x2, [], x0, x1].flatten.length = tot := by simp; omega
  have Hf := hide (And.intro hf1 hf2)
  have htot : tot < 40 := by omega
  have Ht := hide ht
  clear hf1 hf2 ht hl0 hl1 hl2
  go_wp2_with fail
  refine (order_any (some ⟨b, o, none⟩) 3 c3 [x0, x1, x2] w2 (T2.out.2.2.2.1.slS.more hBw) (by omega) tot Hf.out.1 htot).mono ?_
  rintro e w3 ⟨A3, c4, rfl, ho3, hb3⟩
  have T3 := hide (T2.out.below hb3)
  have Ho3 := hide ho3.slc
  have hcap3 := ho3.cap_le
  have hBw3 : B ≤ w3.heap.size := Nat.le_trans hBw hb3.size
  clear ho3 hb3 T2 hBw
  go_upto_region 6 with (fail)
  obtain ⟨y0, A0', k0, hy0, p0, q0, r0, hbb⟩ := T3.out.cell (k := 0) (by omega)
  obtain ⟨y1, A1', k1, hy1, p1, q1, r1, -⟩ := T3.out.cell (k := 1) (by omega)
  obtain ⟨y2, A2', k2, hy2, p2, q2, r2, -⟩ := T3.out.cell (k := 2) (by omega)
  simp only [List.getElem?_cons_zero, List.getElem?_cons_succ, Option.some.injEq] at hy0 hy1 hy2
  subst hy0 hy1 hy2
  rw [Nat.add_zero] at p0
  have P := hide (And.intro p0 (And.intro p1 p2))
  have Q := hide (And.intro (q0.more hBw3) (And.intro (q1.more hBw3) (q2.more hBw3)))
  clear q0 q1 q2
  go_cut [6] (fun v wx => ∃ A4 c6, v = .slice A4 tot c6 ∧ SlC wx wx.heap.size A4 tot (insF [x0, x1, x2].flatten) ∧ Below w3.heap.size w3 wx)
  case first =>
    go_region_held3 (fun w' => w'.cell? ⟨b, o, none⟩ = some (.slice A0' x0.length k0) ∧ w'.cell? ⟨b, o + 1, none⟩ = some (.slice A1' x1.length k1) ∧ w'.cell? ⟨b, o + 2, none⟩ = some (.slice A2' x2.length k2) ∧ Below w3.heap.size w3 w')
      ((go_split_ands; refine keep3 ?_ P.out.1 P.out.2.1 P.out.2.2; first | exact (Below.refl _ _).drew | assumption | exact below_one w3 _))
      (first
        | (go_at_call 28; refine (order_any (some ⟨w3.heap.size, 0, none⟩) 4 4 [x2, [], x0, x1] _ ((four_sl (W := w3.drew) (Q.out.1.drew) (Q.out.2.1.drew) (Q.out.2.2.drew)).more (by simp)) (by omega) tot Hf.out.2 htot).mono ?_; rintro e w4 ⟨A5, c7, rfl, ho5, hb5⟩; have hB5 : Below w3.heap.size w3 w4 := (below_one w3 _).trans (hb5.mono (size_one w3 _)))
        | fail)
    go_wp2_with fail
    go_meet
    exact ⟨A5, c7, rfl, by rw [← order_turn Hchn.out]; exact ho5.slc, hB5⟩
  case rest =>
    obtain ⟨A4, c6, rfl, hs4, hb4⟩ := hcut
    have T4 := hide (T3.out.below hb4)
    have Ho4 := hide ((Ho3.out.below hb4).more hb4.size)
    have Hs4 := hide hs4
    have hBw4 : B ≤ wc.heap.size := Nat.le_trans hBw3 hb4.size
    obtain ⟨w4, hw4⟩ : ∃ V : World, V = wc := ⟨_, rfl⟩
    rw [← hw4] at T4 Ho4 Hs4 hBw4 ⊢
    clear hw4 hb4 hs4 T3 Ho3 P Q p0 p1 p2 hBw3
    go_upto_region 7 with (fail)
    obtain ⟨y0, A0', k0, hy0, p0, -, -, -⟩ := T4.out.cell (k := 0) (by omega)
    obtain ⟨y1, A1', k1, hy1, p1, -, -, -⟩ := T4.out.cell (k := 1) (by omega)
    obtain ⟨y2, A2', k2, hy2, p2, -, -, -⟩ := T4.out.cell (k := 2) (by omega)
    simp only [List.getElem?_cons_zero, List.getElem?_cons_succ, Option.some.injEq] at hy0 hy1 hy2
    subst hy0 hy1 hy2
    rw [Nat.add_zero] at p0
    obtain ⟨m01, hm01⟩ : ∃ q : Nat, q = x0.length + x1.length := ⟨_, rfl⟩
    have z1 : IntKind.i64.wrap ((x0.length : Int) + (x1.length : Int)) = (m01 : Int) := by rw [IntWalk.i64_in _ (by have := Ht.out; omega)]; omega
    have z2 : IntKind.i64.wrap ((m01 : Int) + (x2.length : Int)) = (tot : Int) := by rw [IntWalk.i64_in _ (by have := Ht.out; omega)]; have := Ht.out; omega
    have P0 := Wd.cell p0; have P1 := Wd.cell p1; have P2 := Wd.cell p2
    have Ks := fun p : Wd w4 => hide (same_is (A := A3) (B := A4) (ca := c4) (cb := c6) (n := tot) (w := p.w') (xs := insF [x0, x1, x2].flatten) (ys := insF [x0, x1, x2].flatten) rfl ((Ho4.out.below p.h).more p.h.size) ((Hs4.out.below p.h).more p.h.size) (by omega))
    clear p0 p1 p2 hm01
    refine wp_region_grew (by kernel_rfl) (by kernel_rfl) ?_
    iterate 23 (go_big_quiet_step ((go_at_call 15; exact grew_of (Ks _).out)))
    refine wpQuiet_nil ?_
    intro w5 hw5
    obtain ⟨⟨w5, hb5⟩, rfl⟩ := hw5
    have T5 := hide (T4.out.below hb5)
    have Ho5 := hide ((Ho4.out.below hb5).more hb5.size)
    have hBw5 : B ≤ w5.heap.size := Nat.le_trans hBw4 hb5.size
    clear P0 P1 P2 Ks hb5 z1 z2 T4 Ho4 Hs4 hBw4
    go_upto_region 10 with (fail)
    have hO : ∀ (k : Nat) (xs : List Cl), [x0, x1, x2][k]? = some xs → (insF [x0, x1, x2].flatten).filter (fun d => d.firm == (k : Int)) = xs := fun k xs h => order_firm Hchn.out rfl h
    have hO2 : ∀ c ∈ insF [x0, x1, x2].flatten, ∃ k : Nat, k < 3 ∧ c.firm = (k : Int) ∧ ∃ xs, [x0, x1, x2][k]? = some xs := fun c hc => order_in Hchn.out rfl hc
    have hO3 : srt (insF [x0, x1, x2].flatten) := insF_srt _
    obtain ⟨O, hOe⟩ : ∃ O, O = insF [x0, x1, x2].flatten := ⟨_, rfl⟩
    rw [← hOe] at hO hO2 hO3 Ho5
    have HO := hide (And.intro hO (And.intro hO2 hO3))
    clear hO hO2 hO3 hOe Hf Ht
    obtain ⟨xss, hxss⟩ : ∃ xss, xss = [x0, x1, x2] := ⟨_, rfl⟩
    rw [← hxss] at HO T5
    clear hxss Hl Hchn
    go_wp2
    go_loopg [8] tot (fun gk si wr => ∃ i : Nat, i ≤ tot ∧ tot - i ≤ gk ∧ si = .int .i64 (i : Int) ∧ QSt w5 wr O i)
    case atStart => exact ⟨0, by omega, by omega, rfl, QSt.start w5 O⟩
    case round =>
      obtain ⟨i, hi, hgk, rfl, hq⟩ := hrel
      have Hq := hide hq; clear hq
      by_cases hlt : i < tot
      · obtain ⟨b1, o1, c, rfl, hb1, hx, hc⟩ := Ho5.out.at_ hlt
        obtain ⟨kk, hkk, hfirm, xs, hxs⟩ := HO.out.2.1 c (List.mem_of_getElem? hx)
        have hat := cntF_at hx
        rw [hfirm, HO.out.1 kk xs hxs] at hat
        have hqs := (List.getElem?_eq_some_iff.1 hat).1
        have hstep := fun (W : World) (h : QSt w5 W O i) => h.step hx hkk hfirm
        have HStep := hide hstep; clear hstep
        obtain ⟨xs', A', cc, hxs', hcell, hsl, hcap, hbB⟩ := T5.out.cell hkk
        rw [hxs] at hxs'
        injection hxs' with hxs'
        subst hxs'
        obtain ⟨b2, o2, c', rfl, hb2, hx2, hc2⟩ := hsl.at_ hqs
        rw [hat] at hx2
        injection hx2 with hx2
        subst hx2
        have hbw := Hq.out.2.2.2
        have hcell2 : wr.cell? ⟨b, o + kk, none⟩ = some (.slice (some ⟨b2, o2, none⟩) xs.length cc) := (hbw.cell (p := ⟨b, o + kk, none⟩) (by show b < _; omega)).trans hcell
        have hcA := hc.keep (w' := wr) (fun o => hbw.cell (p := ⟨b1, o, none⟩) hb1)
        have hcB := hc2.keep (w' := wr) (fun o => hbw.cell (p := ⟨b2, o, none⟩) (by show b2 < _; omega))
        have hnx := Hq.out.1 kk hkk
        have hfz := Hq.out.2.1
        obtain ⟨q, hqq⟩ : ∃ q, q = cntF O i (kk : Int) := ⟨_, rfl⟩
        rw [← hqq] at hnx hqs hcB
        have Hqq := hide hqq
        have hprev : ∀ i' : Nat, i = i' + 1 → ∃ d, IsCl wr b1 (o1 + i' * 9) d ∧ ltC c d = false := by
          intro i' hi'
          obtain ⟨bb, oo, d, e, hbb', hd, hdc⟩ := Ho5.out.at_ (k := i') (by omega)
          injection e with e
          injection e with e1 e2
          subst e1 e2
          exact ⟨d, hdc.keep (w' := wr) (fun o => hbw.cell (p := ⟨b1, o, none⟩) hbb'), srt_get HO.out.2.2 hd hx (by omega)⟩
        have Hprev := hide hprev
        clear hx hat hxs hcell hsl hc hc2 hb1 hb2 hprev hbw hqq
        obtain ⟨cf, cs, ct, ck, ca, cr, cx, cp, cg⟩ := c
        dsimp only at hfirm
        subst hfirm
        obtain ⟨u0, u1, u2, u3, u4, u5, u6, u7, u8⟩ := hcA
        obtain ⟨v0, v1, v2, v3, v4, v5, v6, v7, v8⟩ := hcB
        dsimp only at u0 u1 u2 u3 u4 u5 u6 u7 u8 v0 v1 v2 v3 v4 v5 v6 v7 v8
        have Ns := neq_same (⟨(kk : Int), cs, ct, ck, ca, cr, cx, cp, cg⟩ : Cl)
        dsimp only at Ns
        have t1 : (kk : Int) < 3 := by omega
        have t2 : (0 : Int) ≤ (kk : Int) := by omega
        have t3 : decide ((kk : Int) < 0) = false := decide_eq_false (by omega)
        have t4 : decide (2 < (kk : Int)) = false := decide_eq_false (by omega)
        have t5 : (i : Int) < (tot : Int) := by omega
        have t6 : (q : Int) < (xs.length : Int) := by omega
        have t7 : decide (xs.length ≤ q) = false := decide_eq_false (by omega)
        have t7b : decide ((xs.length : Int) ≤ (q : Int)) = false := decide_eq_false (by omega)
        have hq40 : q < 40 := by have := cntF_le O i (kk : Int); rw [← Hqq.out] at this; omega
        have t8 : (0 : Int) ≤ (i : Int) := by omega
        have t9 : (0 : Int) ≤ (q : Int) := by omega
        go_upto_region 14 with (fail)
        have HC := Wd.cell hcell2; have NX := Wd.cell hnx
        have U0 := Wd.cell u0; have U1 := Wd.cell u1; have U2 := Wd.cell u2; have U3 := Wd.cell u3; have U4 := Wd.cell u4; have U5 := Wd.cell u5; have U6 := Wd.cell u6; have U7 := Wd.cell u7; have U8 := Wd.cell u8
        have V0 := Wd.cell v0; have V1 := Wd.cell v1; have V2 := Wd.cell v2; have V3 := Wd.cell v3; have V4 := Wd.cell v4; have V5 := Wd.cell v5; have V6 := Wd.cell v6; have V7 := Wd.cell v7; have V8 := Wd.cell v8
        clear hcell2 hnx u0 u1 u2 u3 u4 u5 u6 u7 u8 v0 v1 v2 v3 v4 v5 v6 v7 v8
        rcases Nat.eq_zero_or_pos i with h0 | h0
        · have t10 : decide (0 < (i : Int)) = false := decide_eq_false (by omega)
          have t10b : decide (0 < i) = false := decide_eq_false (by omega)
          have H0 := hide h0; clear h0
          refine wp_region_grew (by kernel_rfl) (by kernel_rfl) ?_
          iterate 51 (go_big_quiet_step (fail))
          refine wpQuiet_nil ?_
          intro w6 hw6
          obtain ⟨⟨w6, hb6⟩, rfl⟩ := hw6
          have Hq6 := hide (Hq.out.below hb6)
          have hnx := NX ⟨w6, hb6⟩
          dsimp only at hnx
          have hfz := Hq6.out.2.1
          clear HC NX U0 U1 U2 U3 U4 U5 U6 U7 U8 V0 V1 V2 V3 V4 V5 V6 V7 V8 hb6
          go_wp2
          go_roundg (tot - (i + 1))
          case measure => omega
          case rel => exact ⟨i + 1, by omega, by omega, by go_num, by have h := HStep.out _ Hq6.out; rw [← Hqq.out] at h; exact h⟩
        · obtain ⟨i', hi'⟩ : ∃ i', i = i' + 1 := ⟨i - 1, by omega⟩
          obtain ⟨d, hdc, hld⟩ := Hprev.out i' hi'
          obtain ⟨u0, u1, u2, u3, u4, u5, u6, u7, u8⟩ := hdc
          have D0 := Wd.cell u0; have D1 := Wd.cell u1; have D2 := Wd.cell u2; have D3 := Wd.cell u3; have D4 := Wd.cell u4; have D5 := Wd.cell u5; have D6 := Wd.cell u6; have D7 := Wd.cell u7; have D8 := Wd.cell u8
          have t10 : decide (0 < (i : Int)) = true := decide_eq_true (by omega)
          have t11 : IntKind.i64.wrap ((i : Int) - 1) = (i' : Int) := by rw [IntWalk.i64_in _ (by omega)]; omega
          have t12 : (i' : Int) < (tot : Int) := by omega
          have t13 : (0 : Int) ≤ (i' : Int) := by omega
          have Kb := fun p : Wd wr => hide (show Calls Try.prog 33 #[.agg #[.int .i64 (kk : Int), .int .i64 cs, .int .i64 ct, .int .i64 ck, .int .i64 ca, .int .u64 cr, .int .u64 cx, .int .u64 cp, .int .u64 cg], .agg #[.int .i64 d.firm, .int .i64 d.seq, .int .i64 d.time, .int .i64 d.kind, .int .i64 d.a, .int .u64 d.ref, .int .u64 d.aux, .int .u64 d.prev, .int .u64 d.tag]] p.w' fun e w' => e = .returned (.bool false) ∧ Below p.w'.heap.size p.w' w' from by
            have h := before_any (⟨(kk : Int), cs, ct, ck, ca, cr, cx, cp, cg⟩ : Cl) d p.w'
            rw [hld] at h
            exact h)
          have Hi' := hide hi'
          clear u0 u1 u2 u3 u4 u5 u6 u7 u8 hi' hld
          refine wp_region_grew (by kernel_rfl) (by kernel_rfl) ?_
          iterate 51 (go_big_quiet_step ((go_at_call 33; exact grew_of (Kb _).out)))
          refine wpQuiet_nil ?_
          intro w6 hw6
          obtain ⟨⟨w6, hb6⟩, rfl⟩ := hw6
          have Hq6 := hide (Hq.out.below hb6)
          have hnx := NX ⟨w6, hb6⟩
          dsimp only at hnx
          have hfz := Hq6.out.2.1
          clear HC NX U0 U1 U2 U3 U4 U5 U6 U7 U8 V0 V1 V2 V3 V4 V5 V6 V7 V8 D0 D1 D2 D3 D4 D5 D6 D7 D8 Kb hb6 t11
          go_wp2
          go_roundg (tot - (i + 1))
          case measure => omega
          case rel => exact ⟨i + 1, by omega, by omega, by go_num, by have h := HStep.out _ Hq6.out; rw [← Hqq.out] at h; exact h⟩
      · go_wp2
        go_ret
        exact ⟨rfl, T5.out.2.2.1.trans (Hq.out.2.2.2.mono (T5.out.2.2.1.size))⟩
end Go.Proofs.Ythpbjceajnaokaa
