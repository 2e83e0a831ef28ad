/- The walk of LedgerMerges. Condition: the arguments are readable. -/
import Derived.Test.YthpbjceajnaokaaPln
import Derived.Test.YthpbjceajnaokaaLap
import Derived.Deep.LoopGhost
import Derived.Deep.DeepCutAuto
namespace Go.Proofs.Ythpbjceajnaokaa
open Go.RowKit

/-- The two boxes of the arguments. -/
def MBox (w wx : World) (p0 p1 y0 y1 : Int) : Prop :=
  wx.cell? ⟨w.heap.size, 0, none⟩ = some (.int .u8 p0) ∧ wx.cell? ⟨w.heap.size, 1, none⟩ = some (.int .u8 p1) ∧ wx.cell? ⟨w.heap.size + 1, 0, none⟩ = some (.int .u64 y0) ∧ wx.cell? ⟨w.heap.size + 1, 1, none⟩ = some (.int .u64 y1) ∧ w.heap.size + 1 < wx.heap.size ∧ Below w.heap.size w wx
theorem MBox.below {w wr wx : World} {p0 p1 y0 y1 : Int} (h : MBox w wr p0 p1 y0 y1) (hb : Below wr.heap.size wr wx) : MBox w wx p0 p1 y0 y1 := by
  obtain ⟨h1, h2, h3, h4, h6, h7⟩ := h
  have := hb.size
  exact ⟨(hb.cell (p := ⟨w.heap.size, 0, none⟩) (by show w.heap.size < _; omega)).trans h1, (hb.cell (p := ⟨w.heap.size, 1, none⟩) (by show w.heap.size < _; omega)).trans h2,
    (hb.cell (p := ⟨w.heap.size + 1, 0, none⟩) h6).trans h3, (hb.cell (p := ⟨w.heap.size + 1, 1, none⟩) h6).trans h4, by omega, h7.trans (hb.mono (by omega))⟩
theorem MBox.start (w : World) (p0 p1 y0 y1 : Int) : MBox w ((w.alloc (.cells #[.int .u8 p0, .int .u8 p1] 62)).alloc (.cells #[.int .u64 y0, .int .u64 y1] 63)) p0 p1 y0 y1 := by
  have hz := World.size_alloc w (.cells #[.int .u8 p0, .int .u8 p1] 62)
  have hz2 := World.size_alloc (w.alloc (.cells #[.int .u8 p0, .int .u8 p1] 62)) (.cells #[.int .u64 y0, .int .u64 y1] 63)
  have n1 : ((w.alloc (.cells #[.int .u8 p0, .int .u8 p1] 62)).alloc (.cells #[.int .u64 y0, .int .u64 y1] 63)).heap[w.heap.size]? = some (.cells #[.int .u8 p0, .int .u8 p1] 62) := by
    rw [Below.heap_alloc _ _ _ (by omega)]; exact heap_alloc_new w _
  have n2 : ((w.alloc (.cells #[.int .u8 p0, .int .u8 p1] 62)).alloc (.cells #[.int .u64 y0, .int .u64 y1] 63)).heap[w.heap.size + 1]? = some (.cells #[.int .u64 y0, .int .u64 y1] 63) := by
    rw [← hz]; exact heap_alloc_new _ _
  exact ⟨by simp only [World.cell?, n1]; rfl, by simp only [World.cell?, n1]; rfl, by simp only [World.cell?, n2]; rfl, by simp only [World.cell?, n2]; rfl, by omega, ((Below.refl _ w).alloc (Nat.le_refl _) _).alloc (by omega) _⟩

/-- A rule's claim is appended. -/
theorem add_rule {ad : Addr} {i cb : Nat} {key y : Int} {ys : List Cl} {W : World} (hs : SlC W W.heap.size (some ad) i ys) (hl : i ≤ 12) (hchk : chkF key 2 ys = true) :
    ∃ G, tagC key ⟨2, (i : Int) + 1, (lastC ys).time, 3, 0, y, 0, prevD ys, G⟩ = G ∧
      Calls Try.prog 13 #[.slice (some ad) i cb, .int .u64 key, .agg #[.int .i64 2, .int .i64 0, .int .i64 (lastC ys).time, .int .i64 3, .int .i64 0, .int .u64 y, .int .u64 0, .int .u64 0, .int .u64 0]] W fun e w' =>
        ∃ g o c', e = .returned (.agg #[.slice (some ⟨g, o, none⟩) (i + 1) c', .int .i64 0]) ∧ SlC w' w'.heap.size (some ⟨g, o, none⟩) (i + 1) (ys ++ [⟨2, (i : Int) + 1, (lastC ys).time, 3, 0, y, 0, prevD ys, G⟩]) ∧ Below W.heap.size W w' := by
  have hlen := hs.1
  obtain ⟨G, hC, hG, hok⟩ := next_rule (y := y) hchk (by omega)
  rw [hlen] at hC hG
  refine ⟨G, hG, (add_any (some ad) i cb key ys ⟨2, 0, (lastC ys).time, 3, 0, y, 0, 0, 0⟩ W hs (by omega)).mono fun e w' h => ?_⟩
  obtain ⟨hb, A', n', c', zs, er, rfl, ⟨hs', hr⟩, _⟩ := h
  rcases hr with ⟨_, rfl, rfl, rfl, _⟩ | ⟨h1, _⟩
  · rw [hC] at hs'
    obtain ⟨g, o, _, rfl, _⟩ := hs'.at_ (k := i) (by omega)
    exact ⟨g, o, c', rfl, hs', hb⟩
  · exact absurd (hok.symm.trans h1) (by decide)
/-- The boxes, the chain, and the two merges as they lie. -/
def MSt (w W : World) (p0 p1 y0 y1 : Int) (ad : Addr) (m cb mx b12 b13 : Nat) (xs : List Cl) : Prop :=
  MBox w W p0 p1 y0 y1 ∧ SlC W W.heap.size (some ad) m xs ∧ W.cell? ⟨b12, 0, none⟩ = some (.slice (some ad) mx cb) ∧ W.cell? ⟨b12, 1, none⟩ = some (.int .i64 0) ∧ W.cell? ⟨b13, 0, none⟩ = some (.slice (some ad) mx cb) ∧ W.cell? ⟨b13, 1, none⟩ = some (.int .i64 0)
theorem MSt.below {w W W' : World} {p0 p1 y0 y1 : Int} {ad : Addr} {m cb mx b12 b13 : Nat} {xs : List Cl} (h : MSt w W p0 p1 y0 y1 ad m cb mx b12 b13 xs) (hb : Below W.heap.size W W') : MSt w W' p0 p1 y0 y1 ad m cb mx b12 b13 xs := by
  obtain ⟨h1, h2, h3, h4, h5, h6⟩ := h
  have l1 := World.block_lt_of_cell? W _ h3
  have l2 := World.block_lt_of_cell? W _ h5
  exact ⟨h1.below hb, (h2.below hb).more hb.size, (hb.cell (p := ⟨b12, 0, none⟩) l1).trans h3, (hb.cell (p := ⟨b12, 1, none⟩) l1).trans h4, (hb.cell (p := ⟨b13, 0, none⟩) l2).trans h5, (hb.cell (p := ⟨b13, 1, none⟩) l2).trans h6⟩

/-- The two continued chains as they lie. -/
def NSt (w W : World) (b16 b17 g1 o1 c1 g2 o2 c2 n : Nat) (zs us : List Cl) : Prop :=
  W.cell? ⟨b16, 0, none⟩ = some (.slice (some ⟨g1, o1, none⟩) n c1) ∧ W.cell? ⟨b16, 1, none⟩ = some (.int .i64 0) ∧ W.cell? ⟨b17, 0, none⟩ = some (.slice (some ⟨g2, o2, none⟩) n c2) ∧ W.cell? ⟨b17, 1, none⟩ = some (.int .i64 0) ∧
    SlC W W.heap.size (some ⟨g1, o1, none⟩) n zs ∧ SlC W W.heap.size (some ⟨g2, o2, none⟩) n us ∧ Below w.heap.size w W
theorem NSt.below {w W W' : World} {b16 b17 g1 o1 c1 g2 o2 c2 n : Nat} {zs us : List Cl} (h : NSt w W b16 b17 g1 o1 c1 g2 o2 c2 n zs us) (hb : Below W.heap.size W W') : NSt w W' b16 b17 g1 o1 c1 g2 o2 c2 n zs us := by
  obtain ⟨h1, h2, h3, h4, h5, h6, h7⟩ := h
  have l1 := World.block_lt_of_cell? W _ h1
  have l2 := World.block_lt_of_cell? W _ h3
  exact ⟨(hb.cell (p := ⟨b16, 0, none⟩) l1).trans h1, (hb.cell (p := ⟨b16, 1, none⟩) l1).trans h2, (hb.cell (p := ⟨b17, 0, none⟩) l2).trans h3, (hb.cell (p := ⟨b17, 1, none⟩) l2).trans h4, (h5.below hb).more hb.size, (h6.below hb).more hb.size, h7.trans (hb.mono h7.size)⟩
theorem fork_cells (w : World) (v0 v1 : Value) (V : World) (hV : V = w.alloc (.cells #[v0, v1] 46)) :
    V.cell? ⟨w.heap.size, 0, none⟩ = some v0 ∧ V.cell? ⟨w.heap.size, 1, none⟩ = some v1 ∧ Below w.heap.size w V ∧ V.heap.size = w.heap.size + 1 := by
  subst hV
  have n0 := heap_alloc_new w (.cells #[v0, v1] 46)
  exact ⟨by simp only [World.cell?, n0]; rfl, by simp only [World.cell?, n0]; rfl, (Below.refl _ w).alloc (Nat.le_refl _) _, by simp⟩

set_option maxRecDepth 100000 in
set_option maxHeartbeats 4000000 in
theorem merges_walk (A : Option Addr) (n ca : Nat) (p0 p1 y0 y1 : Int) (w : World) (hR : RawsAt w w.heap.size A n) (hp0 : 0 ≤ p0 ∧ p0 < 256) (hp1 : 0 ≤ p1 ∧ p1 < 256) :
    Calls Try.prog 6 #[.slice A n ca, .agg #[.int .u8 p0, .int .u8 p1], .agg #[.int .u64 y0, .int .u64 y1]] w fun e w' => e = .returned (.bool true) ∧ Below w.heap.size w w' := by
  have hfe := field46_1
  have hfd := field38_1
  have HR := hide hR; clear hR
  have Hp := hide (And.intro hp0 hp1); clear hp0 hp1
  go_enter Try.func6, Try.ntmps6
  go_upto_region 2 with (fail)
  refine (examples_any _).mono ?_
  rintro e w1 ⟨rfl, hb1⟩
  have M1 := hide ((MBox.start w p0 p1 y0 y1).below hb1); clear hb1
  go_upto_region 5 with (fail)
  refine (made_any 2 A n ca 12 w1 (by omega) (by
    intro hn
    obtain ⟨b, off, e, hb, hc⟩ := HR.out hn
    refine ⟨b, off, e, Nat.lt_of_lt_of_le hb M1.out.2.2.2.2.2.size, fun k hk => ?_⟩
    obtain ⟨x0, x1, x2, x3, ⟨g0, g1, g2, g3⟩, h⟩ := hc k hk
    have hw := M1.out.2.2.2.2.2
    exact ⟨x0, x1, x2, x3, ⟨(hw.cell (p := ⟨b, _, none⟩) hb).trans g0, (hw.cell (p := ⟨b, _, none⟩) hb).trans g1, (hw.cell (p := ⟨b, _, none⟩) hb).trans g2, (hw.cell (p := ⟨b, _, none⟩) hb).trans g3⟩, h⟩)).mono ?_
  rintro e w2 ⟨ad, m, cb, xs, rfl, hs2, hmc, hm12, had, hb2, hmp⟩
  have M2 := hide (M1.out.below hb2)
  have Hs2 := hide hs2
  have Hmp := hide hmp
  clear hs2 hmp hb2 M1 had
  obtain ⟨q0, q1, q2, q3, -, -⟩ := M2.out
  obtain ⟨i, hi, him⟩ := rem_is (p := p0) (m := m) Hp.out.1
  obtain ⟨j, hj, hjm⟩ := rem_is (p := p1) (m := m) Hp.out.2
  have hic : i ≤ cb := by omega
  have hjc : j ≤ cb := by omega
  go_upto_if 49 with (fail)
  go_cut [11] (fun v wx => v = .slice (some ad) (max i j) cb ∧ wx = w2)
  case first =>
    rcases Nat.lt_or_ge i j with hij | hij
    · go_wp2_with fail
      go_meet
      exact ⟨by rw [show max i j = j by omega], rfl⟩
    · go_wp2_with fail
      go_meet
      exact ⟨by rw [show max i j = i by omega], rfl⟩
  case rest =>
    obtain ⟨rfl, rfl⟩ := hcut
    have Hij := hide (And.intro (And.intro hi him) (And.intro hj hjm))
    clear hi hj
    go_wp2_with fail
    refine (merge_takes Hs2.out him hjm hm12).mono ?_
    rintro e w3 ⟨rfl, hb3⟩
    have M3 := hide (M2.out.below hb3)
    have Hs3 := hide ((Hs2.out.below hb3).more hb3.size)
    clear hb3 M2 Hs2 q0 q1 q2 q3
    go_wp2_with fail
    obtain ⟨V3, hV3⟩ : ∃ V, V = w3.alloc (.cells #[.slice (some ad) (max i j) cb, .int .i64 0] 38) := ⟨_, rfl⟩
    obtain ⟨c0, c1, vb, vz⟩ := pair_cells w3 _ _ V3 hV3
    rw [← hV3]
    obtain ⟨b12, hb12⟩ : ∃ b, w3.heap.size = b := ⟨_, rfl⟩
    rw [hb12] at c0 c1 vz ⊢
    have M4 := hide (M3.out.below vb)
    have Hs4 := hide ((Hs3.out.below vb).more vb.size)
    clear vb hV3 M3 Hs3 hb12
    refine (merge_takes Hs4.out hjm him hm12).mono ?_
    rintro e w5 ⟨rfl, hb5⟩
    have M5 := hide (M4.out.below hb5)
    have Hs5 := hide ((Hs4.out.below hb5).more hb5.size)
    have c0' := (hb5.cell (p := ⟨b12, 0, none⟩) (by show b12 < _; omega)).trans c0
    have c1' := (hb5.cell (p := ⟨b12, 1, none⟩) (by show b12 < _; omega)).trans c1
    have hzz : b12 < w5.heap.size := by have := hb5.size; omega
    clear hb5 M4 Hs4 c0 c1 vz V3 w3
    rw [Nat.max_comm j i]
    go_upto_region 12 with (fail)
    obtain ⟨V5, hV5⟩ : ∃ V, V = w5.alloc (.cells #[.slice (some ad) (max i j) cb, .int .i64 0] 38) := ⟨_, rfl⟩
    obtain ⟨e0, e1, vb, vz⟩ := pair_cells w5 _ _ V5 hV5
    rw [← hV5]
    obtain ⟨b13, hb13⟩ : ∃ b, w5.heap.size = b := ⟨_, rfl⟩
    have hmx : max i j ≤ m := by omega
    obtain ⟨mx, hmxe⟩ : ∃ q, max i j = q := ⟨_, rfl⟩
    rw [hmxe] at c0' e0 hmx ⊢
    rw [hb13] at e0 e1 ⊢
    have ms : MSt w V5 p0 p1 y0 y1 ad m cb mx b12 b13 xs := ⟨M5.out.below vb, (Hs5.out.below vb).more vb.size, (vb.cell (p := ⟨b12, 0, none⟩) hzz).trans c0', (vb.cell (p := ⟨b12, 1, none⟩) hzz).trans c1', e0, e1⟩
    have Ms := hide ms
    clear ms c0' c1' e0 e1 vb vz hV5 M5 Hs5 hzz hmxe hb13 w5
    obtain ⟨⟨q0, q1, q2, q3, -, -⟩, -, c0, c1, e0, e1⟩ := Ms.out
    go_wp2_with fail
    refine (same_is rfl (Ms.out.2.1.take hmx) (Ms.out.2.1.take hmx) (by omega)).mono ?_
    rintro e w6 ⟨rfl, hb6⟩
    have Ms6 := hide (Ms.out.below hb6)
    clear hb6 Ms q0 q1 q2 q3 c0 c1 e0 e1
    obtain ⟨⟨q0, q1, q2, q3, -, -⟩, -, c0, c1, e0, e1⟩ := Ms6.out
    go_wp2_with fail
    refine (same_is rfl (Ms6.out.2.1.take hmx) (Ms6.out.2.1.take hmx) (by omega)).mono ?_
    rintro e w7 ⟨rfl, hb7⟩
    have Ms7 := hide (Ms6.out.below hb7)
    clear hb7 Ms6 q0 q1 q2 q3 c0 c1 e0 e1
    obtain ⟨⟨q0, q1, q2, q3, -, -⟩, -, c0, c1, e0, e1⟩ := Ms7.out
    go_wp2_with fail
    refine (forked_takes Ms7.out.2.1 him hjm hm12).mono ?_
    rintro e w8 ⟨rfl, hb8⟩
    have Ms8 := hide (Ms7.out.below hb8)
    clear hb8 Ms7 q0 q1 q2 q3 c0 c1 e0 e1
    obtain ⟨⟨q0, q1, q2, q3, -, -⟩, -, c0, c1, e0, e1⟩ := Ms8.out
    rcases Bool.eq_false_or_eq_true (y0 == y1) with hy | hy
    · go_wp2_with fail
      refine (same_is rfl (Ms8.out.2.1.take hmx) (Ms8.out.2.1.take hmx) (by omega)).mono ?_
      rintro e w9 ⟨rfl, hb9⟩
      have Ms9 := hide (Ms8.out.below hb9)
      clear hb9 Ms8 q0 q1 q2 q3 c0 c1 e0 e1
      obtain ⟨⟨q0, q1, q2, q3, -, -⟩, -, c0, c1, e0, e1⟩ := Ms9.out
      go_wp2_with fail
      refine (same_is rfl (Ms9.out.2.1.take hmx) (Ms9.out.2.1.take hmx) (by omega)).mono ?_
      rintro e w10 ⟨rfl, hb10⟩
      have Ms10 := hide (Ms9.out.below hb10)
      go_wp2
      go_ret
      exact ⟨rfl, Ms10.out.1.2.2.2.2.2⟩
    · have hyn : y0 ≠ y1 := by simpa using hy
      have Hyn := hide hyn; clear hyn
      go_wp2_with fail
      refine (key_any 2 _).mono ?_
      rintro e w9 ⟨rfl, hb9⟩
      have Ms9 := hide (Ms8.out.below hb9)
      clear hb9 Ms8 q0 q1 q2 q3 c0 c1 e0 e1
      have hchk0 := Hmp.out.1
      obtain ⟨key, hkey⟩ : ∃ q, words [2, 41] = q := ⟨_, rfl⟩
      rw [hkey] at hchk0 ⊢
      have Hchk := hide (chk_take hchk0 i)
      clear hchk0 hkey Hmp
      go_upto_if 113 with (fail)
      go_cut [15] (fun v wx => v = .int .i64 (lastC (xs.take i)).time ∧ wx = w9)
      case first =>
        rcases Nat.eq_zero_or_pos i with h0 | h0
        · subst h0
          go_wp2_with fail
          go_meet
          exact ⟨rfl, rfl⟩
        · obtain ⟨i', rfl⟩ : ∃ i', i = i' + 1 := ⟨i - 1, by omega⟩
          obtain ⟨b, off, d, ead, hb, hx, hc⟩ := Ms9.out.2.1.at_ (k := i') (by omega)
          injection ead with ead
          subst ead
          have hT : (lastC (xs.take (i' + 1))).time = d.time := by rw [take_snoc hx, lastC_snoc]
          have HT := hide hT; clear hT
          clear hx
          obtain ⟨g0, g1, g2, g3, g4, g5, g6, g7, g8⟩ := hc
          clear g0 g1 g3 g4 g5 g6 g7 g8
          go_wp2_with fail
          go_meet
          exact ⟨by rw [HT.out], rfl⟩
      case rest =>
        obtain ⟨rfl, rfl⟩ := hcut
        clear Hij
        have hy2 := Ms9.out.2.1.take him
        have Hl := hide hy2.1
        obtain ⟨ys, hys⟩ : ∃ q, xs.take i = q := ⟨_, rfl⟩
        rw [hys] at Hl Hchk hy2 ⊢
        have Hy2 := hide hy2; clear hy2 hys
        obtain ⟨⟨q0, q1, q2, q3, -, -⟩, -, c0, c1, e0, e1⟩ := Ms9.out
        clear c0 c1 e0 e1
        go_wp2_with fail
        have hi12 : i ≤ 12 := by omega
        obtain ⟨G0, hG0, k0⟩ := add_rule (cb := cb) (y := y0) Hy2.out hi12 Hchk.out
        refine k0.mono ?_
        clear k0
        rintro e w10 ⟨g1, o1, c1, rfl, hs10, hb10⟩
        have Mb10 := hide (Ms9.out.1.below hb10)
        have Hy10 := hide ((Hy2.out.below hb10).more hb10.size)
        have Hs10 := hide hs10
        clear hb10 hs10 Hy2 Ms9 q0 q1 q2 q3
        go_upto_region 19 with (fail)
        obtain ⟨V10, hV10⟩ : ∃ V, V = w10.alloc (.cells #[.slice (some ⟨g1, o1, none⟩) (i + 1) c1, .int .i64 0] 38) := ⟨_, rfl⟩
        obtain ⟨c0, c1', vb, vz⟩ := pair_cells w10 _ _ V10 hV10
        rw [← hV10]
        obtain ⟨b16, hb16⟩ : ∃ b, w10.heap.size = b := ⟨_, rfl⟩
        rw [hb16] at c0 c1' vz ⊢
        have Mb11 := hide (Mb10.out.below vb)
        have Hy11 := hide ((Hy10.out.below vb).more vb.size)
        have Hs11 := hide ((Hs10.out.below vb).more vb.size)
        clear vb hV10 Mb10 Hy10 Hs10 hb16 w10
        obtain ⟨q0, q1, q2, q3, -, -⟩ := Mb11.out
        go_wp2_with fail
        obtain ⟨G1, hG1, k1⟩ := add_rule (cb := cb) (y := y1) Hy11.out hi12 Hchk.out
        refine k1.mono ?_
        clear k1
        rintro e w12 ⟨g2, o2, c2, rfl, hs12, hb12⟩
        have Hs12 := hide ((Hs11.out.below hb12).more hb12.size)
        have Hu12 := hide hs12
        have p0' := (hb12.cell (p := ⟨b16, 0, none⟩) (by show b16 < _; omega)).trans c0
        have p1' := (hb12.cell (p := ⟨b16, 1, none⟩) (by show b16 < _; omega)).trans c1'
        have hbw := Mb11.out.2.2.2.2.2
        have Hbw := hide (hbw.trans (hb12.mono hbw.size))
        have hzz : b16 < w12.heap.size := by have := hb12.size; omega
        clear hb12 hs12 c0 c1' Mb11 Hy11 Hs11 q0 q1 q2 q3 vz V10 hbw
        go_upto_region 20 with (fail)
        obtain ⟨V12, hV12⟩ : ∃ V, V = w12.alloc (.cells #[.slice (some ⟨g2, o2, none⟩) (i + 1) c2, .int .i64 0] 38) := ⟨_, rfl⟩
        obtain ⟨e0, e1, vb, vz⟩ := pair_cells w12 _ _ V12 hV12
        rw [← hV12]
        obtain ⟨b17, hb17⟩ : ∃ b, w12.heap.size = b := ⟨_, rfl⟩
        have hl2 := Hl.out
        obtain ⟨C, hC⟩ : ∃ C : Cl, C = ⟨2, (i : Int) + 1, (lastC ys).time, 3, 0, y0, 0, prevD ys, G0⟩ := ⟨_, rfl⟩
        obtain ⟨D, hD⟩ : ∃ D : Cl, D = ⟨2, (i : Int) + 1, (lastC ys).time, 3, 0, y1, 0, prevD ys, G1⟩ := ⟨_, rfl⟩
        rw [← hC] at hG0 Hs12
        rw [← hD] at hG1 Hu12
        have hne : C ≠ D := fun e => Hyn.out (by rw [hC, hD] at e; injection e)
        have ns : NSt w V12 b16 b17 g1 o1 c1 g2 o2 c2 (i + 1) (ys ++ [C]) (ys ++ [D]) := by
          rw [hb17] at e0 e1
          exact ⟨(vb.cell (p := ⟨b16, 0, none⟩) hzz).trans p0', (vb.cell (p := ⟨b16, 1, none⟩) hzz).trans p1', e0, e1, (Hs12.out.below vb).more vb.size, (Hu12.out.below vb).more vb.size, Hbw.out.trans (vb.mono Hbw.out.size)⟩
        rw [hb17]
        have Ns := hide ns
        have Hne := hide hne
        clear ns hne e0 e1 vb vz hV12 p0' p1' Hs12 Hu12 Hbw hzz hb17 w12
        obtain ⟨c0, c1', e0, e1, -, -, -⟩ := Ns.out
        go_wp2_with fail
        refine (forked_ends Ns.out.2.2.2.2.1 Ns.out.2.2.2.2.2.1 hi12 Hne.out).mono ?_
        rintro e w13 ⟨rfl, hb13⟩
        have Ns13 := hide (Ns.out.below hb13)
        clear hb13 Ns c0 c1' e0 e1
        go_upto_region 21 with (fail)
        obtain ⟨V13, hV13⟩ : ∃ V, V = w13.alloc (.cells #[.int .i64 (i : Int), .bool true] 46) := ⟨_, rfl⟩
        obtain ⟨f0, f1, vb, vz⟩ := fork_cells w13 _ _ V13 hV13
        rw [← hV13]
        obtain ⟨b18, hb18⟩ : ∃ b, w13.heap.size = b := ⟨_, rfl⟩
        rw [hb18] at f0 f1 vz ⊢
        have Ns14 := hide (Ns13.out.below vb)
        clear vb hV13 Ns13 hb18
        have hgs := hide (show C.seq = D.seq by rw [hC, hD])
        have Vz := hide vz; clear vz
        have hgt : C.tag = G0 := by rw [hC]
        have hdt : D.tag = G1 := by rw [hD]
        rw [← hgt] at hG0
        rw [← hdt] at hG1
        have HG0 := hide hG0
        have HG1 := hide hG1
        clear hG0 hG1 hgt hdt hC hD
        have hzi : ys.length = i := Hl.out
        obtain ⟨c0, c1', e0, e1, s1, s2, -⟩ := Ns14.out
        have cl1 : IsCl V13 g1 (o1 + i * 9) C := by
          obtain ⟨b, off, c, e, -, hx, hc⟩ := s1.at_ (k := i) (by omega)
          injection e with e
          injection e with ee1 ee2
          rw [List.getElem?_append_right (by omega), hzi, Nat.sub_self] at hx
          simp only [List.getElem?_cons_zero, Option.some.injEq] at hx
          rw [ee1, ee2, hx]
          exact hc
        have cl2 : IsCl V13 g2 (o2 + i * 9) D := by
          obtain ⟨b, off, c, e, -, hx, hc⟩ := s2.at_ (k := i) (by omega)
          injection e with e
          injection e with ee1 ee2
          rw [List.getElem?_append_right (by omega), hzi, Nat.sub_self] at hx
          simp only [List.getElem?_cons_zero, Option.some.injEq] at hx
          rw [ee1, ee2, hx]
          exact hc
        have hz2 : g2 < V13.heap.size := by
          obtain ⟨b, off, c, e, hb, -⟩ := s2.at_ (k := i) (by omega)
          injection e with e
          injection e with ee1 ee2
          omega
        have Cl2 := hide cl2
        clear s1 s2 cl2 hzi
        obtain ⟨g0', g1', g2', g3', g4', g5', g6', g7', g8'⟩ := cl1
        go_upto_region 22 with (fail)
        clear g0' g1' g2' g3' g4' g5' g6' g7' g8' c0 c1' e0 e1
        obtain ⟨V14, hV14⟩ : ∃ V, V = V13.alloc (.cells (#[.int .i64 C.firm, .int .i64 C.seq, .int .i64 C.time, .int .i64 C.kind, .int .i64 C.a, .int .u64 C.ref, .int .u64 C.aux, .int .u64 C.prev, .int .u64 C.tag]) 29) := ⟨_, rfl⟩
        have vb : Below V13.heap.size V13 V14 := by rw [hV14]; exact (Below.refl _ _).alloc (Nat.le_refl _) _
        have k1 : IsCl V14 V13.heap.size 0 C := by rw [hV14]; exact IsCl.block (heap_alloc_new V13 _)
        have kz : V14.heap.size = V13.heap.size + 1 := by rw [hV14]; simp
        rw [← hV14]
        have Ns15 := hide (Ns14.out.below vb)
        have Cl3 := hide (Cl2.out.keep (w' := V14) (fun o => vb.cell (p := ⟨g2, o, none⟩) hz2))
        have f0' := (vb.cell (p := ⟨b18, 0, none⟩) (by have := Vz.out; show b18 < _; omega)).trans f0
        have f1' := (vb.cell (p := ⟨b18, 1, none⟩) (by have := Vz.out; show b18 < _; omega)).trans f1
        obtain ⟨b19, hb19⟩ : ∃ b, V13.heap.size = b := ⟨_, rfl⟩
        have Kz := hide (show b18 < b19 ∧ V14.heap.size = b19 + 1 by have := Vz.out; omega)
        rw [hb19] at k1 ⊢
        have K1 := hide k1
        clear k1 kz vb hV14 Ns14 Cl2 hz2 f0 f1 hb19 Vz V13
        obtain ⟨c0, c1', e0, e1, -, -, -⟩ := Ns15.out
        obtain ⟨g0', g1', g2', g3', g4', g5', g6', g7', g8'⟩ := Cl3.out
        go_upto_region 23 with (fail)
        clear g0' g1' g2' g3' g4' g5' g6' g7' g8' c0 c1' e0 e1
        obtain ⟨V15, hV15⟩ : ∃ V, V = V14.alloc (.cells (#[.int .i64 D.firm, .int .i64 D.seq, .int .i64 D.time, .int .i64 D.kind, .int .i64 D.a, .int .u64 D.ref, .int .u64 D.aux, .int .u64 D.prev, .int .u64 D.tag]) 29) := ⟨_, rfl⟩
        have vb : Below V14.heap.size V14 V15 := by rw [hV15]; exact (Below.refl _ _).alloc (Nat.le_refl _) _
        have k2 : IsCl V15 V14.heap.size 0 D := by rw [hV15]; exact IsCl.block (heap_alloc_new V14 _)
        rw [← hV15]
        have Ns16 := hide (Ns15.out.below vb)
        have k3 := K1.out.keep (w' := V15) (fun o => vb.cell (p := ⟨b19, o, none⟩) (by have := Kz.out; show b19 < _; omega))
        have h0 := (vb.cell (p := ⟨b18, 0, none⟩) (by have := Kz.out; show b18 < _; omega)).trans f0'
        have h1 := (vb.cell (p := ⟨b18, 1, none⟩) (by have := Kz.out; show b18 < _; omega)).trans f1'
        obtain ⟨b20, hb20⟩ : ∃ b, V14.heap.size = b := ⟨_, rfl⟩
        rw [hb20] at k2 ⊢
        clear vb hV15 Ns15 Cl3 f0' f1' hb20 Kz K1 V14
        have GN := fun p : Wd V15 => Ns16.out.below p.h
        have G1 := fun p : Wd V15 => (GN p).1
        have G2 := fun p : Wd V15 => (GN p).2.1
        have G3 := fun p : Wd V15 => (GN p).2.2.1
        have G4 := fun p : Wd V15 => (GN p).2.2.2.1
        obtain ⟨p0', p1', p2', p3', p4', p5', p6', p7', p8'⟩ := k3.at0
        obtain ⟨r0, r1, r2, r3, r4, r5, r6, r7, r8⟩ := k2.at0
        have F0 := Wd.cell h0; have F1 := Wd.cell h1
        have P0 := Wd.cell p0'; have P1 := Wd.cell p1'; have P2 := Wd.cell p2'; have P3 := Wd.cell p3'; have P4 := Wd.cell p4'; have P5 := Wd.cell p5'; have P6 := Wd.cell p6'; have P7 := Wd.cell p7'; have P8 := Wd.cell p8'
        have R0 := Wd.cell r0; have R1 := Wd.cell r1; have R2 := Wd.cell r2; have R3 := Wd.cell r3; have R4 := Wd.cell r4; have R5 := Wd.cell r5; have R6 := Wd.cell r6; have R7 := Wd.cell r7; have R8 := Wd.cell r8
        have Km := fun p : Wd V15 => hide (merge_ends (ca := c1) (cb := c2) (GN p).2.2.2.2.1 (GN p).2.2.2.2.2.1 hi12 Hne.out)
        have Kt := fun p : Wd V15 => hide (show Calls Try.prog 18 #[.int .u64 key, .agg #[.int .i64 C.firm, .int .i64 C.seq, .int .i64 C.time, .int .i64 C.kind, .int .i64 C.a, .int .u64 C.ref, .int .u64 C.aux, .int .u64 C.prev, .int .u64 C.tag]] p.w' fun e w' => e = .returned (.int .u64 C.tag) ∧ Below p.w'.heap.size p.w' w' from by have h := tag_any key C p.w'; rw [HG0.out] at h; exact h)
        have Ku := fun p : Wd V15 => hide (show Calls Try.prog 18 #[.int .u64 key, .agg #[.int .i64 D.firm, .int .i64 D.seq, .int .i64 D.time, .int .i64 D.kind, .int .i64 D.a, .int .u64 D.ref, .int .u64 D.aux, .int .u64 D.prev, .int .u64 D.tag]] p.w' fun e w' => e = .returned (.int .u64 D.tag) ∧ Below p.w'.heap.size p.w' w' from by have h := tag_any key D p.w'; rw [HG1.out] at h; exact h)
        have hnq := neq_other C D Hne.out
        have hsq : (C.seq == D.seq) = true := by rw [hgs.out]; simp
        clear GN p0' p1' p2' p3' p4' p5' p6' p7' p8' r0 r1 r2 r3 r4 r5 r6 r7 r8 h0 h1 k2 k3 hgs
        refine wp_region_grew (by kernel_rfl) (by kernel_rfl) ?_
        iterate 51 (go_big_quiet_step (first | (go_at_call 22; exact grew_of (Km _).out) | (go_at_call 18; exact grew_of (Kt _).out)))
        iterate 9 (go_big_quiet_step ((go_at_call 18; exact grew_of (Ku _).out)))
        refine wpQuiet_nil ?_
        intro w5 hw5
        obtain ⟨⟨w5, hb5⟩, rfl⟩ := hw5
        have Hb5 := hide (Ns16.out.2.2.2.2.2.2.trans (hb5.mono Ns16.out.2.2.2.2.2.2.size))
        clear G1 G2 G3 G4 F0 F1 P0 P1 P2 P3 P4 P5 P6 P7 P8 R0 R1 R2 R3 R4 R5 R6 R7 R8 Km Kt Ku
        go_wp2
        go_ret
        exact ⟨rfl, Hb5.out⟩
end Go.Proofs.Ythpbjceajnaokaa
