/- The reference's LatestIn. Condition: few claims in force. -/
import Derived.Test.YthpbjceajnaokaaFrc
namespace Go.Proofs.Ythpbjceajnaokaa
open Go.RowKit

/-- A found claim: ten cells. -/
def IsF (w : World) (b : Nat) (x : Cl) (fl : Bool) : Prop := IsCl w b 0 x ∧ w.cell? ⟨b, 9, none⟩ = some (.bool fl) ∧ (∀ o, w.frozen? ⟨b, o, none⟩ = false) ∧ b < w.heap.size
theorem IsF.below {w w' : World} {b : Nat} {x : Cl} {fl : Bool} (h : IsF w b x fl) (hb : Below w.heap.size w w') : IsF w' b x fl := by
  obtain ⟨h1, h2, h3, h4⟩ := h
  exact ⟨h1.keep (fun o => hb.cell (p := ⟨b, o, none⟩) h4), (hb.cell (p := ⟨b, 9, none⟩) h4).trans h2, fun o => (hb.frozen (p := ⟨b, o, none⟩) h4).trans (h3 o), Nat.lt_of_lt_of_le h4 hb.size⟩
theorem IsF.set {W : World} {b : Nat} {x y : Cl} {fl f2 : Bool} (h : IsF W b x fl) (V : World) (hV : V = ((((((((((W.setCell ⟨b, 0, none⟩ (.int .i64 y.firm)).setCell ⟨b, 0 + 1, none⟩ (.int .i64 y.seq)).setCell ⟨b, 0 + 2, none⟩ (.int .i64 y.time)).setCell ⟨b, 0 + 3, none⟩ (.int .i64 y.kind)).setCell ⟨b, 0 + 4, none⟩ (.int .i64 y.a)).setCell ⟨b, 0 + 5, none⟩ (.int .u64 y.ref)).setCell ⟨b, 0 + 6, none⟩ (.int .u64 y.aux)).setCell ⟨b, 0 + 7, none⟩ (.int .u64 y.prev)).setCell ⟨b, 0 + 8, none⟩ (.int .u64 y.tag))).setCell ⟨b, 9, none⟩ (.bool f2)) : IsF V b y f2 ∧ (∀ B, B ≤ b → Below B W V) ∧ ∀ p : Addr, p.block ≠ b → V.cell? p = W.cell? p := by
  obtain ⟨h1, h2, h3, h4⟩ := h
  obtain ⟨U, hU⟩ : ∃ U, U = (((((((((W.setCell ⟨b, 0, none⟩ (.int .i64 y.firm)).setCell ⟨b, 0 + 1, none⟩ (.int .i64 y.seq)).setCell ⟨b, 0 + 2, none⟩ (.int .i64 y.time)).setCell ⟨b, 0 + 3, none⟩ (.int .i64 y.kind)).setCell ⟨b, 0 + 4, none⟩ (.int .i64 y.a)).setCell ⟨b, 0 + 5, none⟩ (.int .u64 y.ref)).setCell ⟨b, 0 + 6, none⟩ (.int .u64 y.aux)).setCell ⟨b, 0 + 7, none⟩ (.int .u64 y.prev)).setCell ⟨b, 0 + 8, none⟩ (.int .u64 y.tag)) := ⟨_, rfl⟩
  obtain ⟨k1, k2, k3, _⟩ := set9_all W b y x h1 U hU
  have hf : ∀ o, U.frozen? ⟨b, o, none⟩ = false := by
    intro o
    rw [hU]
    simp only [World.frozen?_setCell]
    exact h3 o
  have hsz : U.heap.size = W.heap.size := by rw [hU]; simp
  have hc9 : U.cell? ⟨b, 9, none⟩ = some (.bool fl) := by
    rw [hU]
    go_simp
  rw [← hU] at hV
  clear hU
  subst hV
  have h9 : ∀ o, o < 9 → (⟨b, 9, none⟩ : Addr) ≠ ⟨b, o, none⟩ := fun o ho e => by injection e; omega
  obtain ⟨u0, u1, u2, u3, u4, u5, u6, u7, u8⟩ := k1.at0
  refine ⟨⟨IsCl.of0 ?_ ?_ ?_ ?_ ?_ ?_ ?_ ?_ ?_, ?_, fun o => by simp only [World.frozen?_setCell]; exact hf o, by simp; omega⟩, fun B hB => (k3 B hB).setCell (p := ⟨b, 9, none⟩) hB _, fun p hp => ?_⟩
  · rw [World.cell?_setCell_other (h := h9 0 (by omega))]; exact u0
  · rw [World.cell?_setCell_other (h := h9 1 (by omega))]; exact u1
  · rw [World.cell?_setCell_other (h := h9 2 (by omega))]; exact u2
  · rw [World.cell?_setCell_other (h := h9 3 (by omega))]; exact u3
  · rw [World.cell?_setCell_other (h := h9 4 (by omega))]; exact u4
  · rw [World.cell?_setCell_other (h := h9 5 (by omega))]; exact u5
  · rw [World.cell?_setCell_other (h := h9 6 (by omega))]; exact u6
  · rw [World.cell?_setCell_other (h := h9 7 (by omega))]; exact u7
  · rw [World.cell?_setCell_other (h := h9 8 (by omega))]; exact u8
  · rw [World.cell?_setCell_same' _ _ _ (by rw [hc9]; rfl)]
  · rw [World.cell?_setCell_other (h := fun e => hp (by rw [← e]))]; exact k2 p hp
theorem IsF.start (w : World) (o1 : Obj) : IsF ((w.alloc o1).alloc (.cells #[.int .i64 0, .int .i64 0, .int .i64 0, .int .i64 0, .int .i64 0, .int .u64 0, .int .u64 0, .int .u64 0, .int .u64 0, .bool false] 51)) (w.heap.size + 1) zeroC false := by
  have n := heap_alloc_new (w.alloc o1) (.cells #[.int .i64 0, .int .i64 0, .int .i64 0, .int .i64 0, .int .i64 0, .int .u64 0, .int .u64 0, .int .u64 0, .int .u64 0, .bool false] 51)
  rw [World.size_alloc] at n
  refine ⟨IsCl.of0 ?_ ?_ ?_ ?_ ?_ ?_ ?_ ?_ ?_, ?_, fun o => by simp only [World.frozen?, n]; simp, by simp⟩ <;> (simp only [World.cell?, n]; rfl)
theorem IsF.start0 (w : World) : IsF (w.alloc (.cells #[.int .i64 0, .int .i64 0, .int .i64 0, .int .i64 0, .int .i64 0, .int .u64 0, .int .u64 0, .int .u64 0, .int .u64 0, .bool false] 51)) w.heap.size zeroC false := by
  have n := heap_alloc_new w (.cells #[.int .i64 0, .int .i64 0, .int .i64 0, .int .i64 0, .int .i64 0, .int .u64 0, .int .u64 0, .int .u64 0, .int .u64 0, .bool false] 51)
  refine ⟨IsCl.of0 ?_ ?_ ?_ ?_ ?_ ?_ ?_ ?_ ?_, ?_, fun o => by simp only [World.frozen?, n]; simp, by simp⟩ <;> (simp only [World.cell?, n]; rfl)
theorem latest_snoc {firm kind a : Int} (xs : List Cl) (y : Cl) : latestF firm kind a (xs ++ [y]) = if aboutC firm kind a y then some y else latestF firm kind a xs := by
  unfold latestF
  rw [List.reverse_append]
  simp only [List.reverse_cons, List.reverse_nil, List.nil_append, List.singleton_append, List.find?_cons]
  cases aboutC firm kind a y <;> rfl
def LinPost (firm kind a : Int) (xs : List Cl) (w : World) (e : Ending) (w' : World) : Prop :=
  e = .returned (.agg #[.int .i64 ((latestF firm kind a xs).getD zeroC).firm, .int .i64 ((latestF firm kind a xs).getD zeroC).seq, .int .i64 ((latestF firm kind a xs).getD zeroC).time, .int .i64 ((latestF firm kind a xs).getD zeroC).kind, .int .i64 ((latestF firm kind a xs).getD zeroC).a, .int .u64 ((latestF firm kind a xs).getD zeroC).ref, .int .u64 ((latestF firm kind a xs).getD zeroC).aux, .int .u64 ((latestF firm kind a xs).getD zeroC).prev, .int .u64 ((latestF firm kind a xs).getD zeroC).tag, .bool (latestF firm kind a xs).isSome]) ∧ Below w.heap.size w w'

set_option maxRecDepth 100000 in
set_option maxHeartbeats 4000000 in
theorem latestin_of (A : Option Addr) (n ca N : Nat) (time firm kind a : Int) (xs : List Cl) (w : World) (hN : N ≤ 1000)
    (hAt : ∀ W, Below w.heap.size w W → Calls Try.prog 31 #[.slice A n ca, .int .i64 time] W (OwnPost W.heap.size W N xs)) :
    Calls Try.prog 27 #[.slice A n ca, .int .i64 time, .int .i64 firm, .int .i64 kind, .int .i64 a] w (LinPost firm kind a xs w) := by
  have HAt := hide hAt; clear hAt
  go_enter Try.func27, Try.ntmps27
  go_wp2_with fail
  have f0 := IsF.start w (.cells #[.int .i64 0, .int .i64 0, .int .i64 0, .int .i64 0, .int .i64 0, .int .u64 0, .int .u64 0, .int .u64 0, .int .u64 0, .bool false] 51)
  have f1 := (IsF.start0 w).below ((Below.refl (w.alloc (.cells #[.int .i64 0, .int .i64 0, .int .i64 0, .int .i64 0, .int .i64 0, .int .u64 0, .int .u64 0, .int .u64 0, .int .u64 0, .bool false] 51)).heap.size _).alloc (Nat.le_refl _) (.cells #[.int .i64 0, .int .i64 0, .int .i64 0, .int .i64 0, .int .i64 0, .int .u64 0, .int .u64 0, .int .u64 0, .int .u64 0, .bool false] 51))
  have hb0 : Below w.heap.size w ((w.alloc (.cells #[.int .i64 0, .int .i64 0, .int .i64 0, .int .i64 0, .int .i64 0, .int .u64 0, .int .u64 0, .int .u64 0, .int .u64 0, .bool false] 51)).alloc (.cells #[.int .i64 0, .int .i64 0, .int .i64 0, .int .i64 0, .int .i64 0, .int .u64 0, .int .u64 0, .int .u64 0, .int .u64 0, .bool false] 51)) := ((Below.refl _ w).alloc (Nat.le_refl _) _).alloc (by simp) _
  obtain ⟨w1, hw1⟩ : ∃ V, V = ((w.alloc (.cells #[.int .i64 0, .int .i64 0, .int .i64 0, .int .i64 0, .int .i64 0, .int .u64 0, .int .u64 0, .int .u64 0, .int .u64 0, .bool false] 51)).alloc (.cells #[.int .i64 0, .int .i64 0, .int .i64 0, .int .i64 0, .int .i64 0, .int .u64 0, .int .u64 0, .int .u64 0, .int .u64 0, .bool false] 51)) := ⟨_, rfl⟩
  rw [← hw1] at f0 f1 hb0 ⊢
  have F := hide (And.intro f0 (And.intro f1 hb0))
  clear f0 f1 hb0 hw1
  refine (HAt.out w1 F.out.2.2).mono ?_
  clear HAt
  rintro e w2 ⟨A2, c2, rfl, ho2, hb2⟩
  have F2 := hide (And.intro (F.out.1.below hb2) (And.intro (F.out.2.1.below hb2) (F.out.2.2.trans (hb2.mono F.out.2.2.size))))
  have Hs2 := hide (And.intro ho2.slc (show ∀ ad, A2 = some ad → w.heap.size + 1 < ad.block from fun ad e => by subst e; have h1 := (World.ownsRow.lt ho2 ad.block rfl).1; have h2 := F.out.1.2.2.2; omega))
  clear F ho2 hb2
  go_wp2
  go_loopg [13] N (fun gk sj wr => ∃ j : Nat, j ≤ N ∧ N - j ≤ gk ∧ sj = .int .i64 (j : Int) ∧ IsF wr (w.heap.size + 1) ((latestF firm kind a (xs.take j)).getD zeroC) (latestF firm kind a (xs.take j)).isSome ∧ IsF wr w.heap.size zeroC false ∧ SlC wr w2.heap.size A2 N xs ∧ w2.heap.size ≤ wr.heap.size ∧ Below w.heap.size w wr)
  case atStart => exact ⟨0, by omega, by omega, rfl, by rw [List.take_zero]; exact F2.out.1, F2.out.2.1, Hs2.out.1, Nat.le_refl _, F2.out.2.2⟩
  case round =>
    obtain ⟨j, hj, hgk, rfl, hf, hf0, hsl, hsz, hbl⟩ := hrel
    have Hf := hide (And.intro hf (And.intro hf0 (And.intro hsl (And.intro hsz hbl))))
    clear hf hf0 hsl hsz hbl
    by_cases hlt : j < N
    · obtain ⟨b, off, y, rfl, hb, hy, hc⟩ := Hf.out.2.2.1.at_ hlt
      have hyl := latest_snoc (firm := firm) (kind := kind) (a := a) (xs.take j) y
      rw [← take_snoc hy] at hyl
      have Hyl := hide hyl
      clear hyl hy
      obtain ⟨u0, u1, u2, u3, u4, u5, u6, u7, u8⟩ := hc
      have z1 : (j : Int) < (N : Int) := by omega
      go_upto_region 6 with (fail)
      go_cut [48] (fun v wx => v = .bool (aboutC firm kind a y) ∧ wx = wr)
      case first =>
        rcases Bool.eq_false_or_eq_true (y.firm == firm) with f1 | f1
        · rcases Bool.eq_false_or_eq_true (y.kind == kind) with f2 | f2
          · rcases Bool.eq_false_or_eq_true (y.a == a) with f3 | f3
            · have He := hide (show aboutC firm kind a y = true by rw [beq_iff_eq] at f1 f2 f3; unfold aboutC; rw [decide_eq_true f1, decide_eq_true f2, decide_eq_true f3]; rfl)
              go_wp2_with fail
              go_meet
              exact ⟨by rw [He.out], rfl⟩
            · have He := hide (show aboutC firm kind a y = false by rw [beq_eq_false_iff_ne] at f3; unfold aboutC; rw [decide_eq_false f3, Bool.and_false])
              go_wp2_with fail
              go_meet
              exact ⟨by rw [He.out], rfl⟩
          · have He := hide (show aboutC firm kind a y = false by rw [beq_eq_false_iff_ne] at f2; unfold aboutC; rw [decide_eq_false f2, Bool.and_false, Bool.false_and])
            go_wp2_with fail
            go_meet
            exact ⟨by rw [He.out], rfl⟩
        · have He := hide (show aboutC firm kind a y = false by rw [beq_eq_false_iff_ne] at f1; unfold aboutC; rw [decide_eq_false f1, Bool.false_and, Bool.false_and])
          go_wp2_with fail
          go_meet
          exact ⟨by rw [He.out], rfl⟩
      case rest =>
        obtain ⟨rfl, hwc⟩ := hcut
        obtain rfl : wr = wc := hwc.symm
        rcases Bool.eq_false_or_eq_true (aboutC firm kind a y) with hab | hab
        · have Hl := hide (show latestF firm kind a (xs.take (j + 1)) = some y by rw [Hyl.out, hab, if_pos rfl])
          rw [hab]
          clear hab Hyl
          obtain ⟨x, hx⟩ : ∃ x, x = (latestF firm kind a (xs.take j)).getD zeroC := ⟨_, rfl⟩
          obtain ⟨fl, hfl⟩ : ∃ x, x = (latestF firm kind a (xs.take j)).isSome := ⟨_, rfl⟩
          rw [← hx, ← hfl] at Hf
          clear hx hfl
          obtain ⟨v0, v1, v2, v3, v4, v5, v6, v7, v8⟩ := Hf.out.1.1.at0
          have v9 := Hf.out.1.2.1
          have vf := Hf.out.1.2.2.1
          go_upto_region 5 with (fail)
          obtain ⟨V, hV⟩ : ∃ V, V = ((((((((((wr.setCell ⟨w.heap.size + 1, 0, none⟩ (.int .i64 y.firm)).setCell ⟨w.heap.size + 1, 1, none⟩ (.int .i64 y.seq)).setCell ⟨w.heap.size + 1, 2, none⟩ (.int .i64 y.time)).setCell ⟨w.heap.size + 1, 3, none⟩ (.int .i64 y.kind)).setCell ⟨w.heap.size + 1, 4, none⟩ (.int .i64 y.a)).setCell ⟨w.heap.size + 1, 5, none⟩ (.int .u64 y.ref)).setCell ⟨w.heap.size + 1, 6, none⟩ (.int .u64 y.aux)).setCell ⟨w.heap.size + 1, 7, none⟩ (.int .u64 y.prev)).setCell ⟨w.heap.size + 1, 8, none⟩ (.int .u64 y.tag)).setCell ⟨w.heap.size + 1, 9, none⟩ (.bool true)) := ⟨_, rfl⟩
          obtain ⟨k1, k2, k3⟩ := Hf.out.1.set V hV
          rw [← hV]
          have hbv : Below (w.heap.size + 1) wr V := k2 _ (Nat.le_refl _)
          have hw2 : w.heap.size + 1 < w2.heap.size := F2.out.1.2.2.2
          have hcv : ∀ p : Addr, p.block ≠ w.heap.size + 1 → V.cell? p = wr.cell? p := k3
          have hszV : wr.heap.size ≤ V.heap.size := hbv.size
          have Kf := hide (And.intro k1 (And.intro (show IsF V w.heap.size zeroC false from (by
            obtain ⟨e1, e2, e3, e4⟩ := Hf.out.2.1
            have hne : w.heap.size ≠ w.heap.size + 1 := by omega
            exact ⟨e1.keep (fun o => hcv ⟨w.heap.size, o, none⟩ hne), (hcv ⟨w.heap.size, 9, none⟩ hne).trans e2, fun o => (hbv.frozen (p := ⟨w.heap.size, o, none⟩) (by show w.heap.size < _; omega)).trans (e3 o), by omega⟩)) (Hf.out.2.2.2.2.trans (hbv.mono (by omega)))))
          clear hV k1 k2 k3 v0 v1 v2 v3 v4 v5 v6 v7 v8 v9 vf u0 u1 u2 u3 u4 u5 u6 u7 u8
          have hbb : b ≠ w.heap.size + 1 := by have h : w.heap.size + 1 < b := Hs2.out.2 _ rfl; omega
          have HslV := hide (show SlC V w2.heap.size (some ⟨b, off, none⟩) N xs from Hf.out.2.2.1.keepAt (fun ad e o => by injection e with e; subst e; exact hcv ⟨b, o, none⟩ hbb) (Nat.le_refl _))
          have HszV := hide (Nat.le_trans Hf.out.2.2.2.1 hszV)
          clear hcv hbv hszV hw2 hbb Hf
          go_wp2
          go_roundg (N - (j + 1))
          case measure => omega
          case rel => exact ⟨j + 1, by omega, by omega, by go_num, by rw [Hl.out]; exact Kf.out.1, Kf.out.2.1, HslV.out, HszV.out, Kf.out.2.2⟩
        · have Hl := hide (show latestF firm kind a (xs.take (j + 1)) = latestF firm kind a (xs.take j) by rw [Hyl.out, hab, if_neg Bool.false_ne_true])
          rw [hab]
          clear hab Hyl u0 u1 u2 u3 u4 u5 u6 u7 u8
          go_wp2
          go_roundg (N - (j + 1))
          case measure => omega
          case rel => exact ⟨j + 1, by omega, by omega, by go_num, by rw [Hl.out]; exact Hf.out.1, Hf.out.2.1, Hf.out.2.2.1, Hf.out.2.2.2.1, Hf.out.2.2.2.2⟩
    · have hnj : N ≤ j := by omega
      have hl : xs.take j = xs := List.take_of_length_le (by have := Hf.out.2.2.1.1; omega)
      rw [hl] at Hf
      obtain ⟨x, hx⟩ : ∃ x, x = (latestF firm kind a xs).getD zeroC := ⟨_, rfl⟩
      obtain ⟨fl, hfl⟩ : ∃ x, x = (latestF firm kind a xs).isSome := ⟨_, rfl⟩
      rw [← hx, ← hfl] at Hf
      have Hx := hide (And.intro hx hfl)
      clear hx hfl hl
      obtain ⟨v0, v1, v2, v3, v4, v5, v6, v7, v8⟩ := Hf.out.1.1.at0
      have v9 := Hf.out.1.2.1
      obtain ⟨s0, s1, s2, s3, s4, s5, s6, s7, s8⟩ := Hf.out.2.1.1.at0
      have s9 := Hf.out.2.1.2.1
      have sf := Hf.out.2.1.2.2.1
      go_wp2
      obtain ⟨V, hV⟩ : ∃ V, V = ((((((((((wr.setCell ⟨w.heap.size, 0, none⟩ (.int .i64 x.firm)).setCell ⟨w.heap.size, 1, none⟩ (.int .i64 x.seq)).setCell ⟨w.heap.size, 2, none⟩ (.int .i64 x.time)).setCell ⟨w.heap.size, 3, none⟩ (.int .i64 x.kind)).setCell ⟨w.heap.size, 4, none⟩ (.int .i64 x.a)).setCell ⟨w.heap.size, 5, none⟩ (.int .u64 x.ref)).setCell ⟨w.heap.size, 6, none⟩ (.int .u64 x.aux)).setCell ⟨w.heap.size, 7, none⟩ (.int .u64 x.prev)).setCell ⟨w.heap.size, 8, none⟩ (.int .u64 x.tag)).setCell ⟨w.heap.size, 9, none⟩ (.bool fl)) := ⟨_, rfl⟩
      obtain ⟨k1, k2, k3⟩ := Hf.out.2.1.set V hV
      rw [← hV]
      obtain ⟨t0, t1, t2, t3, t4, t5, t6, t7, t8⟩ := k1.1.at0
      have t9 := k1.2.1
      exact bodyPost_ret (v := .agg #[.int .i64 x.firm, .int .i64 x.seq, .int .i64 x.time, .int .i64 x.kind, .int .i64 x.a, .int .u64 x.ref, .int .u64 x.aux, .int .u64 x.prev, .int .u64 x.tag, .bool fl]) (by simp [results, Try.results27, go_sem, t0, t1, t2, t3, t4, t5, t6, t7, t8, t9]) rfl ⟨by rw [Hx.out.1, Hx.out.2], Hf.out.2.2.2.2.trans (k2 _ (Nat.le_refl _))⟩
end Go.Proofs.Ythpbjceajnaokaa
