/- The walk of LedgerAppends. Condition: the descriptions are readable. -/
import Derived.Test.YthpbjceajnaokaaExa
import Derived.Deep.LoopGhost
import Derived.Deep.DeepCutAuto
namespace Go.Proofs.Ythpbjceajnaokaa
open Go.RowKit

/-- A slice of descriptions: four bytes each. -/
def RawS (w : World) (B : Nat) (A : Option Addr) (n : Nat) : Prop :=
  0 < n → ∃ b off, A = some ⟨b, off, none⟩ ∧ b < B ∧ ∀ k, k < n → ∃ x0 x1 x2 x3 : Int, w.cell? ⟨b, off + k * 4, none⟩ = some (.int .u8 x0) ∧ w.cell? ⟨b, off + k * 4 + 1, none⟩ = some (.int .u8 x1) ∧ w.cell? ⟨b, off + k * 4 + 2, none⟩ = some (.int .u8 x2) ∧ w.cell? ⟨b, off + k * 4 + 3, none⟩ = some (.int .u8 x3)
theorem chk_take {key firm : Int} {xs : List Cl} (h : chkF key firm xs = true) (j : Nat) : chkF key firm (xs.take j) = true := by
  unfold chkF at h
  rw [Bool.and_eq_true] at h
  obtain ⟨h1, h2⟩ := h
  rw [List.all_eq_true] at h2
  have hl : (xs.take j).length ≤ xs.length := by rw [List.length_take]; omega
  refine chk_good (by simp only [decide_eq_true_eq] at h1; omega) fun i hi => ?_
  have hi2 : i < xs.length := by omega
  have hij : i < j := by rw [List.length_take] at hi; omega
  have := h2 i (List.mem_range.2 hi2)
  rw [List.take_take, Nat.min_eq_left (by omega), List.getElem?_take_of_lt hij]
  exact this

/-- The chain so far, and the claim in its box. -/
def LapIn (w wr : World) (ad : Addr) (m : Nat) (xs : List Cl) (d : Cl) : Prop :=
  SlC wr wr.heap.size (some ad) m xs ∧ w.heap.size < ad.block ∧ ad.block < wr.heap.size ∧ IsCl wr w.heap.size 0 d ∧ (∀ o, wr.frozen? ⟨w.heap.size, o, none⟩ = false) ∧ w.heap.size < wr.heap.size ∧ Below w.heap.size w wr
theorem LapIn.below {w wr wx : World} {ad : Addr} {m : Nat} {xs : List Cl} {d : Cl} (h : LapIn w wr ad m xs d) (hb : Below wr.heap.size wr wx) : LapIn w wx ad m xs d := by
  obtain ⟨h1, h2, h3, h4, h5, h6, h7⟩ := h
  have := hb.size
  exact ⟨(h1.below hb).more hb.size, h2, by omega, h4.keep (fun o => hb.cell (p := ⟨w.heap.size, o, none⟩) h6), fun o => (hb.frozen (p := ⟨w.heap.size, o, none⟩) h6).trans (h5 o), by omega, h7.trans (hb.mono (by omega))⟩
theorem LapIn.alloc {w wr : World} {ad : Addr} {m : Nat} {xs : List Cl} {d : Cl} (h : LapIn w wr ad m xs d) (o : Obj) : LapIn w (wr.alloc o) ad m xs d :=
  h.below ((Below.refl _ _).alloc (Nat.le_refl _) o)
theorem LapIn.set {w wr : World} {ad : Addr} {m : Nat} {xs : List Cl} {d d' : Cl} (h : LapIn w wr ad m xs d) (k : Nat) (v : Value) (hd : IsCl (wr.setCell ⟨w.heap.size, k, none⟩ v) w.heap.size 0 d') : LapIn w (wr.setCell ⟨w.heap.size, k, none⟩ v) ad m xs d' := by
  obtain ⟨h1, h2, h3, h4, h5, h6, h7⟩ := h
  refine ⟨h1.keepAt (fun a e o => ?_) (by simp), h2, by simpa using h3, hd, fun o => by simp only [World.frozen?_setCell]; exact h5 o, by simpa using h6, h7.setCell (p := ⟨w.heap.size, k, none⟩) (Nat.le_refl _) _⟩
  injection e with e
  subst e
  have hn : (⟨w.heap.size, k, none⟩ : Addr) ≠ ⟨ad.block, o, none⟩ := fun e => by have := congrArg Addr.block e; simp at this; omega
  rw [World.cell?_setCell_other (h := hn)]
theorem LapIn.set0 {w wr : World} {ad : Addr} {m : Nat} {xs : List Cl} {d : Cl} (h : LapIn w wr ad m xs d) (v : Int) : LapIn w (wr.setCell ⟨w.heap.size, 0, none⟩ (.int .i64 v)) ad m xs { d with firm := v } := by
  refine h.set 0 _ ?_
  obtain ⟨h0, h1, h2, h3, h4, h5, h6, h7, h8⟩ := h.2.2.2.1.at0
  refine IsCl.of0 ?_ ?_ ?_ ?_ ?_ ?_ ?_ ?_ ?_ <;> go_simp
theorem LapIn.set2 {w wr : World} {ad : Addr} {m : Nat} {xs : List Cl} {d : Cl} (h : LapIn w wr ad m xs d) (v : Int) : LapIn w (wr.setCell ⟨w.heap.size, 2, none⟩ (.int .i64 v)) ad m xs { d with time := v } := by
  refine h.set 2 _ ?_
  obtain ⟨h0, h1, h2, h3, h4, h5, h6, h7, h8⟩ := h.2.2.2.1.at0
  refine IsCl.of0 ?_ ?_ ?_ ?_ ?_ ?_ ?_ ?_ ?_ <;> go_simp
theorem LapIn.set3 {w wr : World} {ad : Addr} {m : Nat} {xs : List Cl} {d : Cl} (h : LapIn w wr ad m xs d) (v : Int) : LapIn w (wr.setCell ⟨w.heap.size, 3, none⟩ (.int .i64 v)) ad m xs { d with kind := v } := by
  refine h.set 3 _ ?_
  obtain ⟨h0, h1, h2, h3, h4, h5, h6, h7, h8⟩ := h.2.2.2.1.at0
  refine IsCl.of0 ?_ ?_ ?_ ?_ ?_ ?_ ?_ ?_ ?_ <;> go_simp
theorem LapIn.set4 {w wr : World} {ad : Addr} {m : Nat} {xs : List Cl} {d : Cl} (h : LapIn w wr ad m xs d) (v : Int) : LapIn w (wr.setCell ⟨w.heap.size, 4, none⟩ (.int .i64 v)) ad m xs { d with a := v } := by
  refine h.set 4 _ ?_
  obtain ⟨h0, h1, h2, h3, h4, h5, h6, h7, h8⟩ := h.2.2.2.1.at0
  refine IsCl.of0 ?_ ?_ ?_ ?_ ?_ ?_ ?_ ?_ ?_ <;> go_simp
theorem four_cells (W : World) (x0 x1 x2 x3 : Int) (V : World) (hV : V = W.alloc (.cells #[.int .u8 x0, .int .u8 x1, .int .u8 x2, .int .u8 x3] 56)) :
    V.cell? ⟨W.heap.size, 0, none⟩ = some (.int .u8 x0) ∧ V.cell? ⟨W.heap.size, 1, none⟩ = some (.int .u8 x1) ∧ V.cell? ⟨W.heap.size, 2, none⟩ = some (.int .u8 x2) ∧ V.heap.size = W.heap.size + 1 := by
  subst hV
  have n0 := heap_alloc_new W (.cells #[.int .u8 x0, .int .u8 x1, .int .u8 x2, .int .u8 x3] 56)
  exact ⟨by simp only [World.cell?, n0]; rfl, by simp only [World.cell?, n0]; rfl, by simp only [World.cell?, n0]; rfl, by simp⟩
theorem same_is {A B : Option Addr} {n ca cb : Nat} {xs ys : List Cl} {w : World} (h : xs = ys) (ha : SlC w w.heap.size A n xs) (hb : SlC w w.heap.size B n ys) (hn : n ≤ 100000) :
    Calls Try.prog 15 #[.slice A n ca, .slice B n cb] w fun e w' => e = .returned (.bool true) ∧ Below w.heap.size w w' :=
  (same_any A B n n ca cb xs ys w ha hb hn hn).mono fun _ _ ⟨h1, q, h2⟩ => ⟨by rw [h1, sameB, decide_eq_true h], by rw [h2]; exact below_drewN (Below.refl _ _) q⟩
set_option maxRecDepth 100000 in
set_option maxHeartbeats 4000000 in
theorem appends_walk (A : Option Addr) (n ca : Nat) (c : Cl) (key : Int) (w : World) (hR : RawS w w.heap.size A n) :
    Calls Try.prog 4 #[.slice A n ca, .agg #[.int .i64 c.firm, .int .i64 c.seq, .int .i64 c.time, .int .i64 c.kind, .int .i64 c.a, .int .u64 c.ref, .int .u64 c.aux, .int .u64 c.prev, .int .u64 c.tag], .int .u64 key] w fun e w' => e = .returned (.bool true) ∧ Below w.heap.size w w' := by
  have HR := hide hR; clear hR
  go_enter Try.func4, Try.ntmps4
  go_upto_region 2 with (fail)
  refine (examples_any _).mono ?_
  rintro e w1 ⟨rfl, hb1⟩
  have ci1 : IsCl w1 w.heap.size 0 c := (IsCl.block (heap_alloc_new w _)).keep (fun o => hb1.cell (p := ⟨w.heap.size, o, none⟩) (by simp))
  have cf1 : ∀ o, w1.frozen? ⟨w.heap.size, o, none⟩ = false := fun o => (hb1.frozen (p := ⟨w.heap.size, o, none⟩) (by simp)).trans (by go_simp)
  have hz1 : w.heap.size < w1.heap.size := by have := hb1.size; simp at this; omega
  have Hb1 := hide ((Below.refl _ w).alloc (Nat.le_refl _) (.cells (#[.int .i64 c.firm, .int .i64 c.seq, .int .i64 c.time, .int .i64 c.kind, .int .i64 c.a, .int .u64 c.ref, .int .u64 c.aux, .int .u64 c.prev, .int .u64 c.tag]) 29) |>.trans (hb1.mono (by simp))); clear hb1
  have Ci1 := hide ci1; clear ci1
  go_wp2_with fail
  go_loopg [8, 9] 12 (fun gk s i wr => ∃ (k m cb : Nat) (ad : Addr) (xs : List Cl) (d : Cl), 12 ≤ k + gk ∧ k ≤ 12 ∧ m ≤ k ∧ m ≤ cb ∧ s = .slice (some ad) m cb ∧ i = .int .i64 k ∧ chkF key 3 xs = true ∧ LapIn w wr ad m xs d)
  case atStart =>
    exact ⟨0, 0, 0, _, [], c, by omega, by omega, by omega, by omega, rfl, rfl, rfl, SlC.none_, hz1, by simp, Ci1.out.keep (fun o => World.cell?_alloc_lt w1 _ _ hz1), fun o => (World.frozen?_alloc_past _ _ o hz1).trans (cf1 o), by simp; omega, Hb1.out.alloc Hb1.out.size _⟩
  case round =>
    obtain ⟨k, m, cb, ad, xs, d, hk1, hk2, hk3, hk4, rfl, rfl, hchk, hin⟩ := hrel
    have Hchk := hide hchk; clear hchk
    have Hin := hide hin; clear hin
    clear Hb1 Ci1 cf1 hz1
    by_cases hlt : k < n ∧ k < 12
    · obtain ⟨hlt, hlt2⟩ := hlt
      obtain ⟨b, off, rfl, hb, hcells⟩ := HR.out (by omega)
      obtain ⟨x0, x1, x2, x3, g0, g1, g2, g3⟩ := hcells k hlt
      clear hcells
      have hbl := Hin.out.2.2.2.2.2.2
      rw [← hbl.cell (p := ⟨b, _, none⟩) hb] at g0 g1 g2 g3
      clear hbl
      obtain ⟨d0, d1, d2, d3, d4, d5, d6, d7, d8⟩ := Hin.out.2.2.2.1.at0
      have hfz := Hin.out.2.2.2.2.1
      have hsz := Hin.out.2.2.2.2.2.1
      have hkd : decide ((k : Int) < 12) = true := by simp; omega
      go_upto_if 44 with (fail)
      obtain ⟨Wb, hWb⟩ : ∃ V, V = (wr.setCell ⟨w.heap.size, 0, none⟩ (.int .i64 3)).setCell ⟨w.heap.size, 2, none⟩ (.int .i64 (wrap64 (d.time + wrap64 (x0.tmod 3)))) := ⟨_, rfl⟩
      have l1 := (Hin.out.set0 3).set2 (wrap64 (d.time + wrap64 (x0.tmod 3)))
      rw [← hWb] at l1 ⊢
      have hzb : wr.heap.size = Wb.heap.size := by rw [hWb]; simp
      rw [hzb]
      obtain ⟨V, hV⟩ : ∃ V, V = Wb.alloc (.cells #[.int .u8 x0, .int .u8 x1, .int .u8 x2, .int .u8 x3] 56) := ⟨_, rfl⟩
      obtain ⟨f0, f1, f2, fz⟩ := four_cells Wb x0 x1 x2 x3 V hV
      have l2 := l1.alloc (.cells #[.int .u8 x0, .int .u8 x1, .int .u8 x2, .int .u8 x3] 56)
      rw [← hV] at l2 ⊢
      have L2 := hide l2
      obtain ⟨gb, hgb⟩ : ∃ b, Wb.heap.size = b := ⟨_, rfl⟩
      have hgw : w.heap.size < gb := by have := l1.2.2.2.2.2.1; omega
      rw [hgb] at f1 f2 fz ⊢
      clear hV hWb hzb l1 l2 f0 g0 g1 g2 g3 d0 d1 d2 d3 d4 d5 d6 d7 d8 hfz hsz
      obtain ⟨d0, d1, d2, d3, d4, d5, d6, d7, d8⟩ := L2.out.2.2.2.1.at0
      have hfz := L2.out.2.2.2.2.1
      clear d0 d1 d3 d4 d5 d6 d7 d8 Hin hgb Wb
      dsimp only at d2
      go_cut [44] (fun _ wx => ∃ d', d'.firm = 3 ∧ LapIn w wx ad m xs d' ∧ wx.cell? ⟨gb, 1, none⟩ = some (.int .u8 x1) ∧ wx.cell? ⟨gb, 2, none⟩ = some (.int .u8 x2) ∧ gb < wx.heap.size)
      case first =>
        rcases Bool.eq_false_or_eq_true (x0.tmod 16 == 15) with hb | hb
        · go_wp2_with fail
          go_meet
          refine ⟨_, rfl, L2.out.set2 _, ?_, ?_, by simp; omega⟩ <;> go_simp
        · go_wp2_with fail
          go_meet
          exact ⟨_, rfl, L2.out, f1, f2, by omega⟩
      case rest =>
        obtain ⟨d', hd3, hl3, e1, e2, hz3⟩ := hcut
        obtain ⟨cf, cs, ct, ck, cca, cr, cx, cp, cg⟩ := d'
        dsimp only at hd3
        subst hd3
        have L3 := hide hl3; clear hl3
        clear L2 f1 f2 fz d2 hfz
        obtain ⟨d0, d1, d2, d3, d4, d5, d6, d7, d8⟩ := L3.out.2.2.2.1.at0
        have hfz := L3.out.2.2.2.2.1
        dsimp only at d0 d1 d2 d3 d4 d5 d6 d7 d8
        go_upto_region 15 with (fail)
        obtain ⟨W, hW⟩ : ∃ V, V = (wc.setCell ⟨w.heap.size, 3, none⟩ (.int .i64 (wrap64 (1 + wrap64 (x1.tmod 5))))).setCell ⟨w.heap.size, 4, none⟩ (.int .i64 (wrap64 (x2.tmod 9))) := ⟨_, rfl⟩
        rw [← hW]
        have l4 := (L3.out.set3 (wrap64 (1 + wrap64 (x1.tmod 5)))).set4 (wrap64 (x2.tmod 9))
        rw [← hW] at l4
        clear hW d0 d1 d2 d3 d4 d5 d6 d7 d8 hfz L3 e1 e2 hz3 wc
        dsimp only at l4
        generalize wrap64 (1 + wrap64 (x1.tmod 5)) = kd at *
        generalize wrap64 (x2.tmod 9) = aa at *
        have L4 := hide l4; clear l4
        obtain ⟨d0, d1, d2, d3, d4, d5, d6, d7, d8⟩ := L4.out.2.2.2.1.at0
        dsimp only at d0 d1 d2 d3 d4 d5 d6 d7 d8
        go_wp2_with fail
        refine (add_any (some ad) m cb key xs ⟨3, cs, ct, kd, aa, cr, cx, cp, cg⟩ W L4.out.1 (by omega)).mono ?_
        rintro e w2 ⟨hb2, A2, n2, c2, ys, er, rfl, ⟨hs, hr⟩, hat⟩
        have l5 := L4.out.below hb2
        have hzw := L4.out.2.2.2.2.2.1
        have Hs := hide hs; clear hs
        have Hb2 := hide hb2; clear hb2
        clear d0 d1 d2 d3 d4 d5 d6 d7 d8
        rcases hr with ⟨h1, rfl, rfl, rfl, h5⟩ | ⟨h1, rfl, rfl, rfl, rfl, rfl⟩
        · obtain ⟨g2, o2, nc, rfl, hlt2', hx, hcl⟩ := Hs.out.at_ (k := m) (by omega)
          have hat2 := hat rfl _ rfl
          have L6 : Hid (LapIn w w2 ⟨g2, o2, none⟩ (m + 1) (xs ++ [nextC key xs ⟨3, cs, ct, kd, aa, cr, cx, cp, cg⟩]) ⟨3, cs, ct, kd, aa, cr, cx, cp, cg⟩) :=
            hide ⟨Hs.out, by show w.heap.size < g2; dsimp only at hat2; omega, hlt2', l5.2.2.2⟩
          have L5 := hide l5; clear l5
          have H1 := hide h1; clear h1
          have Hcl := hide hcl; clear hcl
          have Hx := hide hx; clear hx
          clear hat hlt2' hat2
          go_upto_region 19 with (fail)
          obtain ⟨w3, hw3⟩ : ∃ V, V = w2.alloc (.cells #[.slice (some ⟨g2, o2, none⟩) (m + 1) c2, .int .i64 0] 38) := ⟨_, rfl⟩
          obtain ⟨p0, p1, pb, pz⟩ := pair_cells w2 _ _ w3 hw3
          rw [← hw3]
          clear hw3
          obtain ⟨bp, hbp⟩ : ∃ b, w2.heap.size = b := ⟨_, rfl⟩
          rw [hbp] at p0 p1 ⊢
          have L7 := hide (L6.out.below pb)
          have L8 := hide (L5.out.below pb)
          obtain ⟨d0, d1, d2, d3, d4, d5, d6, d7, d8⟩ := L7.out.2.2.2.1.at0
          have c7 := Hcl.out.keep (w' := w3) (fun o => pb.cell (p := ⟨g2, o, none⟩) L6.out.2.2.1)
          obtain ⟨e0, e1, e2, e3, e4, e5, e6, e7, e8⟩ := c7
          have hnc : nc.time = ct ∧ nc.ref = cr := by
            have h := Hx.out
            have hl := L5.out.1.1
            rw [List.getElem?_append_right (by omega), hl, Nat.sub_self] at h
            simp only [List.getElem?_cons_zero, Option.some.injEq] at h
            subst h
            exact ⟨rfl, rfl⟩
          rw [hnc.1] at e2
          rw [hnc.2] at e5
          clear hnc
          dsimp only at d2 d5
          have G0 := Wd.cell p0
          have G2 := Wd.cell d2
          have G5 := Wd.cell d5
          have E2 := Wd.cell e2
          have E5 := Wd.cell e5
          have hm1 : m ≤ c2 := by omega
          have Ks := fun p : Wd w3 => hide (same_is (A := some ⟨g2, o2, none⟩) (B := some ad) (ca := c2) (cb := cb) (n := m) (w := p.w') (xs := (xs ++ [nextC key xs ⟨3, cs, ct, kd, aa, cr, cx, cp, cg⟩]).take m) (ys := xs)
            (by rw [List.take_append_of_le_length (by rw [L5.out.1.1]; exact Nat.le_refl _), List.take_of_length_le (by rw [L5.out.1.1]; exact Nat.le_refl _)]) ((L7.out.below p.h).1.take (Nat.le_succ m)) (L8.out.below p.h).1 (by omega))
          clear p0 p1 d0 d1 d2 d3 d4 d5 d6 d7 d8 e0 e1 e2 e3 e4 e5 e6 e7 e8 hbp
          refine wp_region_grew (by kernel_rfl) (by kernel_rfl) ?_
          iterate 41 (go_big_quiet_step ((go_at_call 15; exact grew_of (Ks _).out)))
          refine wpQuiet_nil ?_
          intro w5 hw5
          obtain ⟨⟨w5, hb5⟩, rfl⟩ := hw5
          have g0 := G0 ⟨w5, hb5⟩
          dsimp only at g0
          have L9 := hide (L7.out.below hb5)
          clear G0 G2 G5 E2 E5 Ks hb5
          go_wp2_with fail
          go_roundg (gk - 1)
          case measure => omega
          case rel => exact ⟨k + 1, m + 1, c2, _, _, _, by omega, by omega, by omega, by omega, rfl, by go_num, H1.out, L9.out⟩
        · have L5 := hide l5; clear l5
          clear hat h1
          go_wp2_with fail
          have l6 := L5.out.alloc (.cells #[.slice (some ad) n2 c2, .int .i64 410] 38)
          refine (same_is rfl l6.1 l6.1 (by omega)).mono ?_
          rintro e w5 ⟨rfl, hb5⟩
          have L9 := hide (l6.below hb5)
          clear hb5 l6
          go_wp2_with fail
          go_roundg (gk - 1)
          case measure => omega
          case rel => exact ⟨k + 1, n2, c2, _, _, _, by omega, by omega, by omega, by omega, rfl, by go_num, Hchk.out, L9.out⟩
    · have hb0 : Below w.heap.size w wr := Hin.out.2.2.2.2.2.2
      have hs0 : SlC wr wr.heap.size (some ad) m xs := Hin.out.1
      have Hb0 := hide hb0
      have Hs0 := hide hs0
      clear hb0 hs0
      have hout : (k < n ∧ decide ((k : Int) < 12) = false) ∨ n ≤ k := by
        by_cases h : k < n
        · exact .inl ⟨h, by simp; omega⟩
        · exact .inr (by omega)
      clear hlt
      rcases hout with ⟨hkn, hkd⟩ | hkn
      all_goals
        go_wp2_with fail
        go_loopg [12] (m + 1) (fun gk i wx => ∃ j : Nat, j + gk = m + 1 ∧ i = .int .i64 j ∧ Below wr.heap.size wr wx)
        case atStart => exact ⟨0, by omega, rfl, Below.refl _ _⟩
        case round =>
          obtain ⟨j, hj, rfl, hbj⟩ := hrel
          have Hbj := hide hbj; clear hbj
          by_cases hjm : j ≤ m
          · have hjc : j ≤ cb := by omega
            go_wp2_with fail
            refine (check_any (some ad) j cb key 3 (xs.take j) _ (((Hs0.out.below Hbj.out).more Hbj.out.size).take hjm) (by omega)).mono ?_
            rintro e w1 ⟨rfl, hb1⟩
            have Hb1 := hide (Hbj.out.trans (hb1.mono Hbj.out.size))
            clear hb1
            rw [chk_take Hchk.out j, if_pos rfl]
            go_wp2_with fail
            go_roundg (gk - 1)
            case measure => omega
            case rel => exact ⟨j + 1, by omega, by go_num, Hb1.out⟩
          · go_wp2
            go_ret
            exact ⟨rfl, Hb0.out.trans (Hbj.out.mono Hb0.out.size)⟩
end Go.Proofs.Ythpbjceajnaokaa
