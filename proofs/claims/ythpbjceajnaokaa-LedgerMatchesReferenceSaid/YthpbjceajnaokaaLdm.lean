/- The walk of LedgerDamage. Condition: the arguments are readable. -/
import Derived.Test.YthpbjceajnaokaaInj
import Derived.Test.YthpbjceajnaokaaLap
import Derived.Test.YthpbjceajnaokaaIns
import Derived.Deep.LoopGhost
import Derived.Deep.DeepCutAuto
namespace Go.Proofs.Ythpbjceajnaokaa
open Go.RowKit

/-- The box of the change. -/
def OBox (w wx : World) (kd N t : Int) : Prop :=
  wx.cell? ⟨w.heap.size, 0, none⟩ = some (.int .u8 kd) ∧ wx.cell? ⟨w.heap.size, 1, none⟩ = some (.int .i64 N) ∧ wx.cell? ⟨w.heap.size, 2, none⟩ = some (.int .u8 t) ∧ w.heap.size < wx.heap.size ∧ Below w.heap.size w wx
theorem OBox.below {w wr wx : World} {kd N t : Int} (h : OBox w wr kd N t) (hb : Below wr.heap.size wr wx) : OBox w wx kd N t := by
  obtain ⟨h1, h2, h3, h6, h7⟩ := h
  have := hb.size
  exact ⟨(hb.cell (p := ⟨w.heap.size, 0, none⟩) h6).trans h1, (hb.cell (p := ⟨w.heap.size, 1, none⟩) h6).trans h2, (hb.cell (p := ⟨w.heap.size, 2, none⟩) h6).trans h3, by omega, h7.trans (hb.mono (by omega))⟩
theorem OBox.start (w : World) (kd N t v3 v4 v5 v6 : Int) : OBox w (w.alloc (.cells #[.int .u8 kd, .int .i64 N, .int .u8 t, .int .i64 v3, .int .i64 v4, .int .i64 v5, .int .i64 v6] 26)) kd N t := by
  have n1 := heap_alloc_new w (.cells #[.int .u8 kd, .int .i64 N, .int .u8 t, .int .i64 v3, .int .i64 v4, .int .i64 v5, .int .i64 v6] 26)
  exact ⟨by simp only [World.cell?, n1]; rfl, by simp only [World.cell?, n1]; rfl, by simp only [World.cell?, n1]; rfl, by simp, (Below.refl _ w).alloc (Nat.le_refl _) _⟩
theorem rem_pos {p : Int} {m : Nat} (hp : 0 ≤ p ∧ p < 256) (hm : 0 < m) : ∃ i : Nat, (wrap64 p).tmod (m : Int) = (i : Int) ∧ i < m := by
  rw [IntWalk.wrap64_in _ (by omega), Int.tmod_eq_emod_of_nonneg hp.1]
  have h1 := Int.emod_nonneg p (b := (m : Int)) (by omega)
  have h2 := Int.emod_lt_of_pos p (b := (m : Int)) (by omega)
  exact ⟨(p % (m : Int)).toNat, by omega, by omega⟩

theorem SlC.drop {w : World} {B b off n k : Nat} {xs : List Cl} (h : SlC w B (some ⟨b, off, none⟩) n xs) (hk : k ≤ n) : SlC w B (some ⟨b, off + k * 9, none⟩) (n - k) (xs.drop k) := by
  refine ⟨by rw [List.length_drop, h.1], fun hn => ?_⟩
  obtain ⟨b', off', e, hb, hc⟩ := h.2 (by omega)
  injection e with e
  injection e with e1 e2
  subst e1 e2
  refine ⟨b, _, rfl, hb, fun j c hj => ?_⟩
  rw [List.getElem?_drop] at hj
  rw [show off + k * 9 + j * 9 = off + (k + j) * 9 by omega]
  exact hc _ c hj
theorem check_yes {A : Option Addr} {n ca : Nat} {key firm : Int} {xs : List Cl} {w : World} (ha : SlC w w.heap.size A n xs) (hn : n ≤ 1000) (h : chkF key firm xs = true) :
    Calls Try.prog 20 #[.slice A n ca, .int .u64 key, .int .i64 firm] w fun e w' => e = .returned (.int .i64 0) ∧ Below w.heap.size w w' := by
  have := check_any A n ca key firm xs w ha hn
  unfold ChkPost at this
  rw [h, if_pos rfl] at this
  exact this
theorem check_no {A : Option Addr} {n ca : Nat} {key firm : Int} {xs : List Cl} {w : World} (ha : SlC w w.heap.size A n xs) (hn : n ≤ 1000) (h : chkF key firm xs = false) :
    Calls Try.prog 20 #[.slice A n ca, .int .u64 key, .int .i64 firm] w fun e w' => e = .returned (.int .i64 410) ∧ Below w.heap.size w w' := by
  have := check_any A n ca key firm xs w ha hn
  unfold ChkPost at this
  rw [h, if_neg Bool.false_ne_true] at this
  exact this
/-- The box, the chain, and the changed chain as they lie. -/
def DSt (w W : World) (kd N t : Int) (b0 o0 m : Nat) (xs : List Cl) (g cap : Nat) (ys : List Cl) : Prop :=
  OBox w W kd N t ∧ SlC W W.heap.size (some ⟨b0, o0, none⟩) m xs ∧ Row W g cap ys ∧ w.heap.size < g ∧ b0 < g
theorem DSt.below {w W W' : World} {kd N t : Int} {b0 o0 m g cap : Nat} {xs ys : List Cl} (h : DSt w W kd N t b0 o0 m xs g cap ys) (hb : Below W.heap.size W W') : DSt w W' kd N t b0 o0 m xs g cap ys := by
  obtain ⟨h1, h2, h3, h4, h5⟩ := h
  exact ⟨h1.below hb, (h2.below hb).more hb.size, h3.below hb, h4, h5⟩
theorem DSt.set {w W : World} {kd N t : Int} {b0 o0 m g cap k : Nat} {xs ys : List Cl} (h : DSt w W kd N t b0 o0 m xs g cap ys) (hk : k < ys.length) (c : Cl) : DSt w (W.setCells g (k * 9) c.cells) kd N t b0 o0 m xs g cap (ys.set k c) := by
  obtain ⟨⟨q0, q1, q2, q3, q4⟩, h2, h3, h4, h5⟩ := h
  have hg := grown_setCells g c.cells (k * 9) W
  have hr := h3.set hk c
  generalize W.setCells g (k * 9) c.cells = V at hg hr ⊢
  have hne : some w.heap.size ≠ some g := fun e => by injection e; omega
  have hne2 : some b0 ≠ some g := fun e => by injection e; omega
  have hl := h3.lt
  refine ⟨⟨(hg.cell_far ⟨w.heap.size, 0, none⟩ q3 hne).trans q0, (hg.cell_far ⟨w.heap.size, 1, none⟩ q3 hne).trans q1, (hg.cell_far ⟨w.heap.size, 2, none⟩ q3 hne).trans q2, Nat.lt_of_lt_of_le q3 hg.size, q4.grown hg (Nat.le_of_lt q3) (fun k e => by injection e with e; omega)⟩, ?_, hr, h4, h5⟩
  refine h2.keepAt (fun a e o => ?_) hg.size
  injection e with e
  subst e
  exact hg.cell_far ⟨b0, o, none⟩ (show b0 < _ by omega) hne2
theorem DSt.row {w W : World} {kd N t : Int} {b0 o0 m g cap k : Nat} {xs ys : List Cl} (h : DSt w W kd N t b0 o0 m xs g cap ys) (hk : k < ys.length) (d : Cl) : DSt w ((((((((((W.setCell ⟨g, k * 9, none⟩ (.int .i64 d.firm)).setCell ⟨g, k * 9 + 1, none⟩ (.int .i64 d.seq)).setCell ⟨g, k * 9 + 2, none⟩ (.int .i64 d.time)).setCell ⟨g, k * 9 + 3, none⟩ (.int .i64 d.kind)).setCell ⟨g, k * 9 + 4, none⟩ (.int .i64 d.a)).setCell ⟨g, k * 9 + 5, none⟩ (.int .u64 d.ref)).setCell ⟨g, k * 9 + 6, none⟩ (.int .u64 d.aux)).setCell ⟨g, k * 9 + 7, none⟩ (.int .u64 d.prev)).setCell ⟨g, k * 9 + 8, none⟩ (.int .u64 d.tag))) kd N t b0 o0 m xs g cap (ys.set k d) := by
  rw [chain9 W g (k * 9) d]
  exact h.set hk d

theorem SlC.far {w w' : World} {B n g : Nat} {A : Option Addr} {xs : List Cl} (h : SlC w B A n xs) (hB : B ≤ g) (hBw : B ≤ w.heap.size) (hg : w.grownBy w' (some g)) : SlC w' B A n xs :=
  h.keep (fun p hp => hg.cell_far p (by omega) (fun e => by injection e; omega))
/-- The chain, the chain with one claim less, and a row of one's own as they lie. -/
def ESt (w W : World) (B b0 o0 m : Nat) (xs : List Cl) (A : Option Addr) (n : Nat) (ls : List Cl) (g cap : Nat) (zs : List Cl) : Prop :=
  SlC W B (some ⟨b0, o0, none⟩) m xs ∧ SlC W B A n ls ∧ Row W g cap zs ∧ Below w.heap.size w W ∧ w.heap.size ≤ B ∧ B ≤ g
theorem ESt.below {w W W' : World} {B b0 o0 m n g cap : Nat} {A : Option Addr} {xs ls zs : List Cl} (h : ESt w W B b0 o0 m xs A n ls g cap zs) (hb : Below W.heap.size W W') : ESt w W' B b0 o0 m xs A n ls g cap zs := by
  obtain ⟨h1, h2, h3, h4, h5, h6⟩ := h
  have hl := h3.lt
  exact ⟨h1.below (hb.mono (by omega)), h2.below (hb.mono (by omega)), h3.below hb, h4.trans (hb.mono (by omega)), h5, h6⟩
theorem ESt.put {w W W' : World} {B b0 o0 m n g cap : Nat} {A : Option Addr} {xs ls zs us : List Cl} (h : ESt w W B b0 o0 m xs A n ls g cap zs) (hr : Row W' g cap us) (hg : W.grownBy W' (some g)) : ESt w W' B b0 o0 m xs A n ls g cap us := by
  obtain ⟨h1, h2, h3, h4, h5, h6⟩ := h
  have hl := h3.lt
  exact ⟨h1.far h6 (by omega) hg, h2.far h6 (by omega) hg, hr, h4.grown hg (by omega) (fun k e => by injection e with e; omega), h5, h6⟩

set_option maxRecDepth 100000 in
set_option maxHeartbeats 4000000 in
theorem damage_walk (A : Option Addr) (n ca : Nat) (kd N t v3 v4 v5 v6 key : Int) (w : World) (hR : RawsAt w w.heap.size A n) (hkd : 0 ≤ kd ∧ kd < 256) (ht : 0 ≤ t ∧ t < 256) (hN : -9223372036854775808 ≤ N ∧ N ≤ 9223372036854775807) (hkey : W64 key) :
    Calls Try.prog 5 #[.slice A n ca, .agg #[.int .u8 kd, .int .i64 N, .int .u8 t, .int .i64 v3, .int .i64 v4, .int .i64 v5, .int .i64 v6], .int .u64 key] w fun e w' => e = .returned (.bool true) ∧ Below w.heap.size w w' := by
  have HR := hide hR; clear hR
  have Hp := hide (And.intro hkd (And.intro ht (And.intro hN hkey))); clear hkd ht hN hkey
  go_enter Try.func5, Try.ntmps5
  go_upto_region 2 with (fail)
  refine (examples_any _).mono ?_
  rintro e w1 ⟨rfl, hb1⟩
  have M1 := hide ((OBox.start w kd N t v3 v4 v5 v6).below hb1); clear hb1
  go_upto_region 5 with (fail)
  refine (made_any 5 A n ca 12 w1 (by omega) (by
    intro hn
    obtain ⟨b, off, e, hb, hc⟩ := HR.out hn
    have hw := M1.out.2.2.2.2
    refine ⟨b, off, e, Nat.lt_of_lt_of_le hb hw.size, fun k hk => ?_⟩
    obtain ⟨x0, x1, x2, x3, ⟨g0, g1, g2, g3⟩, h⟩ := hc k hk
    exact ⟨x0, x1, x2, x3, ⟨(hw.cell (p := ⟨b, _, none⟩) hb).trans g0, (hw.cell (p := ⟨b, _, none⟩) hb).trans g1, (hw.cell (p := ⟨b, _, none⟩) hb).trans g2, (hw.cell (p := ⟨b, _, none⟩) hb).trans g3⟩, h⟩)).mono ?_
  rintro e w2 ⟨ad, m, cb, xs, rfl, hs2, hmc, hm12, had, hb2, hmp⟩
  have M2 := hide (M1.out.below hb2)
  have Hs2 := hide hs2
  have Hmp := hide hmp
  clear hs2 hmp hb2 M1 had
  obtain ⟨q0, q1, q2, -, -⟩ := M2.out
  rcases Nat.eq_zero_or_pos m with hm0 | hm0
  · subst hm0
    go_wp2
    go_ret
    exact ⟨rfl, M2.out.2.2.2.2⟩
  have hme : ((m : Int) == 0) = false := by simp; omega
  rcases Bool.eq_false_or_eq_true (N == 0) with hn0 | hn0
  · go_wp2
    go_ret
    exact ⟨rfl, M2.out.2.2.2.2⟩
  have hn1 : N ≠ 0 := by simpa using hn0
  obtain ⟨k, hk, hkm⟩ := rem_pos Hp.out.2.1 hm0
  obtain ⟨b0, o0, c, ead, hb0, hx, -⟩ := Hs2.out.at_ hkm
  injection ead with ead
  subst ead
  go_upto_region 8 with (fail)
  have Hk := hide hk
  have Hn1 := hide hn1
  have Hx := hide hx
  clear hk hn0 hn1 hx q0 q1 q2
  go_upto_region 9 with (at_builtin; refine wpList_app rfl (.tmp 34) (.tmp 35) rfl (.slice (some ⟨w2.heap.size, 0, none⟩) 0 0) rfl (some ⟨b0, o0, none⟩) m cb rfl w2.heap.size 0 w2.heap.size [] xs (World.ownsRow_made w2 #[] 0 (Nat.le_refl _) (by decide) rfl) (Hs2.out.alloc (Nat.le_refl _) _) (by omega) (by simp) ?_; intro A3 c3 w3 how hgr hat)
  simp only [Nat.zero_add, List.nil_append] at how ⊢
  have hb3 : Below w2.heap.size w2 w3 := ((Below.refl _ w2).alloc (Nat.le_refl _) _).grown hgr (by simp) (by simp [Value.ownBlock])
  obtain ⟨g, cap, hv, hg1, hg2⟩ := how.form hm0
  injection hv with hv1 hv2 hv3
  subst hv1 hv3
  have hrow := how.toRow
  have hws : w.heap.size < g := by have := M2.out.2.2.2.1; omega
  have ds : DSt w w3 kd N t b0 o0 m xs g c3 xs := ⟨M2.out.below hb3, (Hs2.out.below hb3).more hb3.size, hrow, hws, by omega⟩
  have Ds := hide ds
  have hmc3 : m ≤ c3 := how.cap_le
  clear hrow ds how hgr hat hb3 hg1 hg2 M2 Hs2 hb0
  have Kc := fun W => hide (changed_any c kd N W Hp.out.1)
  have Hd := hide (show chkF (words [5, 41]) 5 (xs.set k (chgF c (kd % 9) N)) = false from damage_field Hmp.out.1 Hx.out Hp.out.2.2.1 Hn1.out (Hmp.out.2 c (List.mem_of_getElem? Hx.out)).2.1 (Hmp.out.2 c (List.mem_of_getElem? Hx.out)).2.2.1 (Hmp.out.2 c (List.mem_of_getElem? Hx.out)).2.2.2.1 (Hmp.out.2 c (List.mem_of_getElem? Hx.out)).2.2.2.2.1)
  obtain ⟨d, hd⟩ : ∃ d, d = chgF c (kd % 9) N := ⟨_, rfl⟩
  rw [← hd] at Kc Hd
  clear hd
  have hkm2 : (k : Int) < (m : Int) := by omega
  have hk0 : (0 : Int) ≤ (k : Int) := by omega
  have hkl : k < xs.length := (List.getElem?_eq_some_iff.1 Hx.out).1
  have Hkl := hide hkl; clear hkl
  obtain ⟨y0, y1, y2, y3, y4, y5, y6, y7, y8⟩ := Ds.out.2.2.1.at_ Hx.out
  obtain ⟨q0, q1, -, -, -⟩ := Ds.out.1
  go_cut [47] (fun _ wx => DSt w wx kd N t b0 o0 m xs g c3 (xs.set k d))
  case first =>
    go_region_with ((go_at_call 11; refine (Kc _).out.mono ?_; rintro e w4 ⟨rfl, hb4⟩; have hB4 : Below w3.heap.size w3 w4 := Below.trans (Below.refl _ w3).drew hb4; have Ds4 := hide (Ds.out.below hB4); clear y0 y1 y2 y3 y4 y5 y6 y7 y8 hB4 hb4; obtain ⟨y0, y1, y2, y3, y4, y5, y6, y7, y8⟩ := Ds4.out.2.2.1.at_ Hx.out; have hf4 := Ds4.out.2.2.1.frozen))
    all_goals
      go_wp2_with fail
      go_meet
      exact Ds4.out.row Hkl.out d
  case rest =>
    have Dt := hide hcut
    clear hcut Ds Kc Hx Hkl y0 y1 y2 y3 y4 y5 y6 y7 y8 q0 q1
    go_wp2_with fail
    refine (key_any 5 _).mono ?_
    rintro e w5 ⟨rfl, hb5⟩
    have Dt5 := hide (Dt.out.below hb5)
    clear hb5 Dt
    have Hchk := hide Hmp.out.1
    have Hkd := hide (show W64 (words [5, 41]) from W64.from (W64.stp _ _) _)
    obtain ⟨ky, hky⟩ : ∃ q, words [5, 41] = q := ⟨_, rfl⟩
    rw [hky] at Hchk Hd Hkd ⊢
    clear hky
    have hlen := Dt5.out.2.1.1
    have Hlen := hide hlen; clear hlen
    have hys : (xs.set k d).length = m := by rw [List.length_set, Hlen.out]
    have Hys := hide hys; clear hys
    have Ho := hide (show chkF ky 4 xs = false from damage_firm Hchk.out (by rw [Hlen.out]; exact hm0) (by omega))
    go_upto_region 11 with (fail)
    go_cut [76] (fun v wx => v = .bool false ∧ DSt w wx kd N t b0 o0 m xs g c3 (xs.set k d))
    case first =>
      go_wp2_with fail
      refine (check_yes Dt5.out.2.1 (by omega) Hchk.out).mono ?_
      rintro e w6 ⟨rfl, hb6⟩
      have Dt6 := hide (Dt5.out.below hb6)
      clear hb6 Dt5
      go_wp2_with fail
      refine (check_no (by have h := Dt6.out.2.2.1.slc; rw [Hys.out] at h; exact h) (by omega) Hd.out).mono ?_
      rintro e w7 ⟨rfl, hb7⟩
      have Dt7 := hide (Dt6.out.below hb7)
      clear hb7 Dt6
      go_wp2_with fail
      refine (check_no Dt7.out.2.1 (by omega) Ho.out).mono ?_
      rintro e w8 ⟨rfl, hb8⟩
      have Dt8 := hide (Dt7.out.below hb8)
      clear hb8 Dt7
      rcases Bool.eq_false_or_eq_true (key != ky) with hq | hq
      · have Hb := hide (show chkF key 5 xs = false from damage_key Hchk.out (by rw [Hlen.out]; exact hm0) (by rw [bne_iff_ne] at hq; exact fun e => hq e.symm) Hkd.out Hp.out.2.2.2)
        go_wp2_with fail
        refine (check_no Dt8.out.2.1 (by omega) Hb.out).mono ?_
        rintro e w9 ⟨rfl, hb9⟩
        have Dt9 := hide (Dt8.out.below hb9)
        go_wp2_with fail
        go_meet
        exact ⟨rfl, Dt9.out⟩
      · go_wp2_with fail
        go_meet
        exact ⟨rfl, Dt8.out⟩
    case rest =>
      obtain ⟨rfl, hcut⟩ := hcut
      have Dt := hide hcut
      clear hcut Dt5
      by_cases hlast : k + 1 = m
      · have hq : ((k : Int) == (m : Int) - 1) = true := by rw [beq_iff_eq]; omega
        go_wp2
        go_ret
        exact ⟨rfl, Dt.out.1.2.2.2.2⟩
      · have hq : ((k : Int) == (m : Int) - 1) = false := by rw [beq_eq_false_iff_ne]; omega
        have hkm3 : (k : Int) + 1 < (m : Int) := by omega
        have hkc : (k : Int) + 1 ≤ (cb : Int) := by omega
        have hkc2 : (k : Int) ≤ (cb : Int) := by omega
        have hmc2 : (m : Int) ≤ (cb : Int) := by omega
        go_upto_region 15 with (fail)
        have Hdr := hide (Dt.out.2.1.drop (k := k + 1) (by omega))
        have Htk := hide (Dt.out.2.1.take (k := k) (by omega))
        have Hl1 := hide (show chkF ky 5 (xs.take k ++ xs.drop (k + 1)) = false from damage_less Hchk.out (by rw [Hlen.out]; omega))
        have hmk : k + (m - (k + 1)) ≤ 1000 := by omega
        go_cut [12] (fun v wx => ∃ A' c', v = .slice A' (k + (m - (k + 1))) c' ∧ SlC wx wx.heap.size A' (k + (m - (k + 1))) (xs.take k ++ xs.drop (k + 1)) ∧ DSt w wx kd N t b0 o0 m xs g c3 (xs.set k d))
        case first =>
          have z1 : IntKind.i64.wrap ((k : Int) + 1) = (k : Int) + 1 := IntWalk.i64_in _ (by omega)
          have z2 : (0 : Int) ≤ (k : Int) + 1 := by omega
          have z3 : ((k : Int) + 1).toNat = k + 1 := by omega
          have z4 : (k : Int) + 1 ≤ (m : Int) := by omega
          have z5 : ¬ cb = k + 1 := by omega
          go_region_held3 (fun _ => True) (trivial)
            (first
              | ((with_reducible refine step_app0 ?_ (.tmp 83) (.tmp 86) ?_ (.slice (some ⟨wc.heap.size, 0, none⟩) 0 0) ?_ (some ⟨b0, o0, none⟩) k cb ?_ wc.heap.size wc.heap.size (xs.take k) ?_ ?_ ?_ ?_ ?_); (focus rfl); (focus rfl); (focus rfl); (focus rfl); (focus exact (OwC.empty (w := wc.drew) (Nat.le_refl _))); (focus exact (slc_one0 Htk.out _)); (focus omega); (focus exact size_one wc _); intro A5 c5 w5 ho5 hg5 hat5; have hB5 : Below wc.heap.size wc w5 := Below.grown (below_one wc _) hg5 (size_one wc _) (OwC.row (OwC.empty (w := wc.drew) (Nat.le_refl _))))
              | ((with_reducible refine step_app ?_ (.tmp 87) (.tmp 91) ?_ (.slice A5 k c5) ?_ (some ⟨b0, o0 + (k + 1) * 9, none⟩) (m - (k + 1)) (cb - (k + 1)) ?_ wc.heap.size k wc.heap.size (xs.take k) (xs.drop (k + 1)) ?_ ?_ ?_ ?_ ?_); (focus rfl); (focus rfl); (focus rfl); (focus rfl); (focus exact ho5); (focus exact (Hdr.out.below hB5)); (focus omega); (focus exact hB5.size); intro A6 c6 w6 ho6 hg6 hat6; have hB6 : Below wc.heap.size wc w6 := hB5.grown hg6 hB5.size (ho5.row))
              | fail)
          all_goals
            go_wp2_with fail
            go_meet
            exact ⟨A6, c6, rfl, ho6.slc, Dt.out.below hB6⟩
        case rest =>
          obtain ⟨A6, c6, rfl, hs6, hd6⟩ := hcut
          have Hs6 := hide hs6
          have Dt6 := hide hd6
          clear hs6 hd6 Hdr Htk Dt
          go_upto_region 17 with (at_builtin; refine wpList_app rfl (.tmp 93) (.tmp 94) rfl (.slice (some ⟨wc.heap.size, 0, none⟩) 0 0) rfl (some ⟨b0, o0, none⟩) m cb rfl wc.heap.size 0 wc.heap.size [] xs (World.ownsRow_made wc #[] 0 (Nat.le_refl _) (by decide) rfl) (Dt6.out.2.1.alloc (Nat.le_refl _) _) (by omega) (by simp) ?_; intro A7 c7 w7 how hgr hat)
          simp only [Nat.zero_add, List.nil_append] at how ⊢
          have hb7 : Below wc.heap.size wc w7 := ((Below.refl _ wc).alloc (Nat.le_refl _) _).grown hgr (by simp) (by simp [Value.ownBlock])
          obtain ⟨g7, cap7, hv, hg1, hg2⟩ := how.form hm0
          injection hv with hv1 hv2 hv3
          subst hv1 hv3
          have es : ESt w w7 wc.heap.size b0 o0 m xs A6 (k + (m - (k + 1))) (xs.take k ++ xs.drop (k + 1)) g7 c7 xs := ⟨Dt6.out.2.1.below hb7, Hs6.out.below hb7, how.toRow, Dt6.out.1.2.2.2.2.trans (hb7.mono (Nat.le_of_lt Dt6.out.1.2.2.2.1)), Nat.le_of_lt Dt6.out.1.2.2.2.1, hg1⟩
          have hmc7 : m ≤ c7 := how.cap_le
          have Es := hide es
          clear es how hgr hat hb7 hg1 hg2 Hs6 Dt6
          obtain ⟨b1, o1, dn, ead, -, hxn, x0, x1, x2, x3, x4, x5, x6, x7, x8⟩ := Es.out.1.at_ (k := k + 1) (by omega)
          injection ead with ead
          injection ead with ea1 ea2
          subst ea1 ea2
          have Hxn := hide hxn; clear hxn
          have z1 : IntKind.i64.wrap ((k : Int) + 1) = (k : Int) + 1 := IntWalk.i64_in _ (by omega)
          have z2 : (0 : Int) ≤ (k : Int) + 1 := by omega
          have z3 : ((k : Int) + 1).toNat = k + 1 := by omega
          have Hkl := hide (show k < xs.length by rw [Hlen.out]; omega)
          have Hkl2 := hide (show k + 1 < (xs.set k dn).length by rw [List.length_set, Hlen.out]; omega)
          go_upto_region 18 with (refine wpList_store_row rfl (.tmp 103) (.tmp 102) rfl g7 c7 k xs dn rfl rfl Es.out.2.2.1 Hkl.out ?_; intro w8 hr8 hg8; have Es8 := hide (Es.out.put hr8 hg8); clear hr8 hg8 x0 x1 x2 x3 x4 x5 x6 x7 x8 Es)
          obtain ⟨b1, o1, ck, ead, -, hxk, x0, x1, x2, x3, x4, x5, x6, x7, x8⟩ := Es8.out.1.at_ (k := k) hkm
          injection ead with ead
          injection ead with ea1 ea2
          subst ea1 ea2
          clear hxk
          go_upto_region 19 with (refine wpList_store_row rfl (.tmp 111) (.tmp 110) rfl g7 c7 (k + 1) (xs.set k dn) ck rfl rfl Es8.out.2.2.1 Hkl2.out ?_; intro w9 hr9 hg9; have Es9 := hide (Es8.out.put hr9 hg9); clear hr9 hg9 x0 x1 x2 x3 x4 x5 x6 x7 x8 Es8)
          have Hl2 := hide (show chkF ky 5 ((xs.set k dn).set (k + 1) ck) = false from damage_turned Hchk.out (by rw [Hlen.out]; omega) Hxn.out)
          have Hl3 := hide (show ((xs.set k dn).set (k + 1) ck).length = m by rw [List.length_set, List.length_set, Hlen.out])
          clear z1 z2 z3 Hxn Hkl Hkl2
          go_wp2_with fail
          refine (check_no (Es9.out.2.1.more (Nat.le_of_lt (Nat.lt_of_le_of_lt Es9.out.2.2.2.2.2 Es9.out.2.2.1.lt))) hmk Hl1.out).mono ?_
          rintro e w10 ⟨rfl, hb10⟩
          have Es10 := hide (Es9.out.below hb10)
          clear hb10 Es9
          go_wp2_with fail
          refine (check_no (by have h := Es10.out.2.2.1.slc; rw [Hl3.out] at h; exact h) (by omega) Hl2.out).mono ?_
          rintro e w11 ⟨rfl, hb11⟩
          have Es11 := hide (Es10.out.below hb11)
          clear hb11 Es10
          go_wp2
          go_ret
          exact ⟨rfl, Es11.out.2.2.2.1⟩
end Go.Proofs.Ythpbjceajnaokaa
