/- Facts of definitions that have no variables: Drop, Start, Join. No condition. -/
import Derived.Test.YthhfakkfdohcpaaGreatM04
import Derived.Test.YthhfakkfdohcpaaGreatM01
import Derived.Deep.DeepCutAuto
import Derived.Deep.LoopGhost
namespace Go.Proofs.YthhfakkfdohcpaaGreat
open Go.RowKit

def EmpA (A : Option Addr) (c : Nat) : Prop := (A = none ∧ c = 0) ∨ ∃ b off, A = some ⟨b, off, none⟩
theorem EmpA.emp {A : Option Addr} {c : Nat} (h : EmpA A c) : Emp (.slice A 0 c) := by
  rcases h with ⟨rfl, rfl⟩ | ⟨b, off, rfl⟩
  · exact .inl rfl
  · exact .inr ⟨_, _, _, rfl⟩
theorem Emp.is {v : Value} (h : Emp v) : ∃ A c, v = .slice A 0 c ∧ EmpA A c := by
  rcases h with rfl | ⟨b, off, c, rfl⟩
  · exact ⟨_, _, rfl, .inl ⟨rfl, rfl⟩⟩
  · exact ⟨_, _, rfl, .inr ⟨_, _, rfl⟩⟩
theorem boxes3 (w : World) (a b c : List Value) (ta tb tc : TypeId) (W : World) (h : W = ((w.alloc (.cells a.toArray ta)).alloc (.cells b.toArray tb)).alloc (.cells c.toArray tc)) :
    BoxAt W w.heap.size a ∧ BoxAt W (w.heap.size + 1) b ∧ BoxAt W (w.heap.size + 1 + 1) c ∧ W.heap.size = w.heap.size + 3 ∧ Below w.heap.size w W := by
  have s1 := World.size_alloc w (.cells a.toArray ta)
  have s2 := World.size_alloc (w.alloc (.cells a.toArray ta)) (.cells b.toArray tb)
  have b1 := ((BoxAt.new w a ta).alloc (.cells b.toArray tb)).alloc (.cells c.toArray tc)
  have b2 := (BoxAt.new (w.alloc (.cells a.toArray ta)) b tb).alloc (.cells c.toArray tc)
  have b3 := BoxAt.new ((w.alloc (.cells a.toArray ta)).alloc (.cells b.toArray tb)) c tc
  rw [s1] at b2 s2
  rw [s2] at b3
  rw [← h] at b1 b2 b3
  exact ⟨b1, b2, b3, by rw [h, World.size_alloc, s2], by rw [h]; exact (((Below.refl _ w).alloc (Nat.le_refl _) _).alloc (by omega) _).alloc (by omega) _⟩

theorem BoxAt.set8 {W : World} {g : Nat} {a b c d e f i j : Value} (h : BoxAt W g [a, b, c, d, e, f, i, j]) (b0 b1 b2 b3 b4 b5 b6 b7 : Value) :
    BoxAt ((((((((W.setCell ⟨g, 0, none⟩ b0).setCell ⟨g, 1, none⟩ b1).setCell ⟨g, 2, none⟩ b2).setCell ⟨g, 3, none⟩ b3).setCell ⟨g, 4, none⟩ b4).setCell ⟨g, 5, none⟩ b5).setCell ⟨g, 6, none⟩ b6).setCell ⟨g, 7, none⟩ b7) g [b0, b1, b2, b3, b4, b5, b6, b7] :=
  (((((((h.set 0 (by simp) b0).set 1 (by simp) b1).set 2 (by simp) b2).set 3 (by simp) b3).set 4 (by simp) b4).set 5 (by simp) b5).set 6 (by simp) b6).set 7 (by simp) b7
/-- A result that is a fact, read off its box. -/
theorem res_fact {fn : Func} {t : Nat} {tmps : Array Value} {W : World} {g : Nat} {a b c d e f i j : Value} (hr : fn.results = #[.cell t 164]) (ht : tmps.getD t undef = .pointer (some ⟨g, 0, none⟩)) (h : BoxAt W g [a, b, c, d, e, f, i, j]) :
    (results fn tmps).run Tryz.prog W = .ok (.agg #[a, b, c, d, e, f, i, j]) W := by
  obtain ⟨k0, k1, k2, k3, k4, k5, k6, k7, -, -⟩ := h.eight
  have ht' : tmps[t]?.getD undef = .pointer (some ⟨g, 0, none⟩) := by rw [← ht]; simp [Array.getD_eq_getD_getElem?]
  simp [results, hr, go_sem, ht', k0, k1, k2, k3, k4, k5, k6, k7]
set_option maxRecDepth 100000 in
set_option maxHeartbeats 4000000 in
theorem drop_zero (id site : Int) (nm B : Value) (must may pa : Int) (Ag Aa : Option Addr) (cg ca : Nat) (hg : EmpA Ag cg) (w : World) :
    Calls Tryz.prog 117 #[.agg #[.int .i64 id, .int .i64 site, nm, .int .i64 0, .int .i64 0, .slice none 0 0, .slice none 0 0, .int .i64 0, .int .i64 0, .slice none 0 0, .int .i64 100, B], .int .i64 0, .agg #[.bool false, .slice none 0 0, .slice Ag 0 cg, .slice none 0 0, .slice Aa 0 ca, .int .i64 must, .int .i64 may, .int .i64 pa]] w fun e w' => ∃ A c, e = .returned (.agg #[.bool false, .slice none 0 0, .slice A 0 c, .slice none 0 0, .slice Aa 0 ca, .int .i64 must, .int .i64 may, .int .i64 pa]) ∧ EmpA A c ∧ Below w.heap.size w w' := by
  have Hg := hide hg; clear hg
  go_enter Tryz.func117, Tryz.ntmps117
  go_upto_region 3 with (fail)
  obtain ⟨W, hW⟩ : ∃ V, V = ((w.alloc (.cells ([.int .i64 id, .int .i64 site, nm, .int .i64 0, .int .i64 0, .slice none 0 0, .slice none 0 0, .int .i64 0, .int .i64 0, .slice none 0 0, .int .i64 100, B]).toArray 83)).alloc (.cells ([.bool false, .slice none 0 0, .slice Ag 0 cg, .slice none 0 0, .slice Aa 0 ca, .int .i64 must, .int .i64 may, .int .i64 pa]).toArray 164)).alloc (.cells ([.bool false, .slice none 0 0, .slice none 0 0, .slice none 0 0, .slice none 0 0, .int .i64 0, .int .i64 0, .int .i64 0]).toArray 164) := ⟨_, rfl⟩
  obtain ⟨b3, b5, b6, hz, hbW⟩ := boxes3 w _ _ _ _ _ _ W hW
  rw [← hW]
  clear hW
  have B3 := hide b3
  have B5 := hide b5
  have B6 := hide b6
  obtain ⟨k0, k1, k2, k3, k4, k5, k6, k7, kf, kz⟩ := B5.out.eight
  have d5 := B3.out.1 5 _ rfl
  have d7 := B3.out.1 7 _ rfl
  clear b3 b5 b6
  go_cut [28] (fun _ wx => ∃ A c, EmpA A c ∧ BoxAt wx (w.heap.size + 1) ([.bool false, .slice none 0 0, .slice A 0 c, .slice none 0 0, .slice Aa 0 ca, .int .i64 must, .int .i64 may, .int .i64 pa]) ∧ BoxAt wx (w.heap.size + 1 + 1) ([.bool false, .slice none 0 0, .slice none 0 0, .slice none 0 0, .slice none 0 0, .int .i64 0, .int .i64 0, .int .i64 0]) ∧ Below w.heap.size w wx)
  case first =>
    go_region_with (first
      | (go_at_call 114; refine (gap_new _).mono ?_; rintro e w1 ⟨A1, rfl, hb1⟩; have hB1 : Below W.heap.size W w1 := Below.trans (by first | exact Below.refl _ _ | exact (Below.refl _ W).drew) hb1; have C5 := hide (B5.out.below hB1); obtain ⟨m0, m1, m2, m3, m4, m5, m6, m7, mf, mz⟩ := C5.out.eight)
      | (go_at_call 143; refine (gap_join _ _ Hg.out.emp _).mono ?_; rintro e w2 ⟨g', rfl, hg', hb2⟩; obtain ⟨A2, c2, rfl, hg2⟩ := hg'.is; clear hg'; have hB2 : Below W.heap.size W w2 := hB1.trans (hb2.mono hB1.size); have D5 := hide (B5.out.below hB2); obtain ⟨n0, n1, n2, n3, n4, n5, n6, n7, nf, nz⟩ := D5.out.eight))
    all_goals
      go_wp2_with fail
      go_meet
      have hs := D5.out.set 2 (by simp) (.slice A2 0 c2)
      exact ⟨A2, c2, hg2, hs, (B6.out.below hB2).other (by omega) _, (hbW.trans (hB2.mono hbW.size)).setCell (by show w.heap.size ≤ w.heap.size + 1; omega) _⟩
  case rest =>
    obtain ⟨A, c, hA, h5, h6, hb⟩ := hcut
    obtain ⟨V, hV⟩ : ∃ V : World, V = wc := ⟨_, rfl⟩
    rw [← hV] at h5 h6 hb ⊢
    clear hV k0 k1 k2 k3 k4 k5 k6 k7 kf kz d5 d7 B3 B5 B6
    have B5 := hide h5
    have B6 := hide h6
    obtain ⟨k0, k1, k2, k3, k4, k5, k6, k7, kf, kz⟩ := h5.eight
    clear h5 h6
    go_upto_region 7 with (fail)
    go_cut [37] (fun _ wx => BoxAt wx (w.heap.size + 1) ([.bool false, .slice none 0 0, .slice A 0 c, .slice none 0 0, .slice Aa 0 ca, .int .i64 must, .int .i64 may, .int .i64 pa]) ∧ BoxAt wx (w.heap.size + 1 + 1) ([.bool false, .slice none 0 0, .slice none 0 0, .slice none 0 0, .slice none 0 0, .int .i64 0, .int .i64 0, .int .i64 0]) ∧ Below w.heap.size w wx)
    case first =>
      go_region_with (first
        | (go_at_call 145; refine (clone_abs_nil _).mono ?_; rintro e w1 ⟨rfl, hb1⟩; have hB1 : Below V.heap.size V w1 := Below.trans (by first | exact Below.refl _ _ | exact (Below.refl _ V).drew) hb1; have C5 := hide (B5.out.below hB1); obtain ⟨m0, m1, m2, m3, m4, m5, m6, m7, mf, mz⟩ := C5.out.eight)
        | (go_at_call 146; refine (clone_ref_nil _).mono ?_; rintro e w2 ⟨rfl, hb2⟩; have hB2 : Below V.heap.size V w2 := hB1.trans (hb2.mono hB1.size); have D5 := hide (B5.out.below hB2); obtain ⟨n0, n1, n2, n3, n4, n5, n6, n7, nf, nz⟩ := D5.out.eight))
      all_goals
        go_wp2_with fail
        go_meet
        have hs := (D5.out.set 1 (by simp) (.slice none 0 0)).set 3 (by simp) (.slice none 0 0)
        exact ⟨hs, ((B6.out.below hB2).other (by omega) _).other (by omega) _, ((hb.trans (hB2.mono hb.size)).setCell (by show w.heap.size ≤ w.heap.size + 1; omega) _).setCell (by show w.heap.size ≤ w.heap.size + 1; omega) _⟩
    case rest =>
      obtain ⟨h5, h6, hb7⟩ := hcut
      obtain ⟨U, hU⟩ : ∃ V : World, V = wc := ⟨_, rfl⟩
      rw [← hU] at h5 h6 hb7 ⊢
      clear hU k0 k1 k2 k3 k4 k5 k6 k7 kf kz B5 B6 hb
      obtain ⟨k0, k1, k2, k3, k4, k5, k6, k7, kf, kz⟩ := h5.eight
      obtain ⟨q0, q1, q2, q3, q4, q5, q6, q7, qf, qz⟩ := h6.eight
      have H6 := hide h6
      clear h5 h6
      go_wp2_with fail
      go_rounds 1
      go_rounds 1
      exact bodyPost_ret (res_fact rfl rfl (H6.out.set8 _ _ _ _ _ _ _ _)) rfl ⟨A, c, rfl, hA, (by repeat (first | with_reducible exact hb7 | with_reducible exact Below.refl _ _ | with_reducible refine Below.setCell ?_ (by simp <;> omega) _ | with_reducible refine below_drewN ?_ _ | with_reducible refine Below.drew ?_ | with_reducible refine Below.alloc ?_ (by simp <;> omega) _ | with_reducible refine Below.setCell ?_ (by simp <;> omega) _ | with_reducible refine Below.alloc ?_ (by simp <;> omega) _ | with_reducible refine Below.setCell ?_ (by omega) _ | with_reducible refine Below.alloc ?_ (by omega) _ | omega | (simp; done)))⟩
set_option maxRecDepth 100000 in
set_option maxHeartbeats 4000000 in
theorem drop_two (id site : Int) (nm B : Value) (must may pa : Int) (Ag Aa : Option Addr) (cg ca : Nat) (w : World) :
    Calls Tryz.prog 117 #[.agg #[.int .i64 id, .int .i64 site, nm, .int .i64 0, .int .i64 0, .slice none 0 0, .slice none 0 0, .int .i64 0, .int .i64 0, .slice none 0 0, .int .i64 100, B], .int .i64 2, .agg #[.bool false, .slice none 0 0, .slice Ag 0 cg, .slice none 0 0, .slice Aa 0 ca, .int .i64 must, .int .i64 may, .int .i64 pa]] w fun e w' => e = .returned (.agg #[.bool false, .slice none 0 0, .slice Ag 0 cg, .slice none 0 0, .slice Aa 0 ca, .int .i64 must, .int .i64 may, .int .i64 pa]) ∧ Below w.heap.size w w' := by
  go_enter Tryz.func117, Tryz.ntmps117
  go_wp2
  exact bodyPost_ret (by simp [results, Tryz.results117, go_sem]) rfl ⟨rfl, (by repeat (first | with_reducible exact Below.refl _ _ | with_reducible refine Below.setCell ?_ (by simp <;> omega) _ | with_reducible refine below_drewN ?_ _ | with_reducible refine Below.drew ?_ | with_reducible refine Below.alloc ?_ (by simp <;> omega) _ | with_reducible refine Below.setCell ?_ (by simp <;> omega) _ | with_reducible refine Below.alloc ?_ (by simp <;> omega) _ | omega | (simp; done)))⟩
/-- Drop, at the levels of the examples. -/
def Lev (lv : Int) : Prop := lv = 0 ∨ lv = 2
theorem drop_live (lv : Int) (hl : Lev lv) (id site : Int) (nm B : Value) (must may pa : Int) (Ag Aa : Option Addr) (cg ca : Nat) (hg : EmpA Ag cg) (w : World) :
    Calls Tryz.prog 117 #[.agg #[.int .i64 id, .int .i64 site, nm, .int .i64 0, .int .i64 0, .slice none 0 0, .slice none 0 0, .int .i64 0, .int .i64 0, .slice none 0 0, .int .i64 100, B], .int .i64 lv, .agg #[.bool false, .slice none 0 0, .slice Ag 0 cg, .slice none 0 0, .slice Aa 0 ca, .int .i64 must, .int .i64 may, .int .i64 pa]] w fun e w' => ∃ A c, e = .returned (.agg #[.bool false, .slice none 0 0, .slice A 0 c, .slice none 0 0, .slice Aa 0 ca, .int .i64 must, .int .i64 may, .int .i64 pa]) ∧ EmpA A c ∧ Below w.heap.size w w' := by
  rcases hl with rfl | rfl
  · exact drop_zero id site nm B must may pa Ag Aa cg ca hg w
  · exact (drop_two id site nm B must may pa Ag Aa cg ca w).mono fun e w' ⟨h1, h2⟩ => ⟨_, _, h1, hg, h2⟩
end Go.Proofs.YthhfakkfdohcpaaGreat
/- The fact at the beginning, and the join of two dead facts. No condition. -/
namespace Go.Proofs.YthhfakkfdohcpaaGreat
open Go.RowKit

theorem boxes2 (w : World) (a b : List Value) (ta tb : TypeId) (W : World) (h : W = (w.alloc (.cells a.toArray ta)).alloc (.cells b.toArray tb)) :
    BoxAt W w.heap.size a ∧ BoxAt W (w.heap.size + 1) b ∧ W.heap.size = w.heap.size + 2 ∧ Below w.heap.size w W := by
  have s1 := World.size_alloc w (.cells a.toArray ta)
  have b1 := (BoxAt.new w a ta).alloc (.cells b.toArray tb)
  have b2 := BoxAt.new (w.alloc (.cells a.toArray ta)) b tb
  rw [s1] at b2
  rw [← h] at b1 b2
  exact ⟨b1, b2, by rw [h, World.size_alloc, s1], by rw [h]; exact ((Below.refl _ w).alloc (Nat.le_refl _) _).alloc (by omega) _⟩

theorem boxes4 (w : World) (a b c d : List Value) (ta tb tc td : TypeId) (W : World) (h : W = (((w.alloc (.cells a.toArray ta)).alloc (.cells b.toArray tb)).alloc (.cells c.toArray tc)).alloc (.cells d.toArray td)) :
    BoxAt W w.heap.size a ∧ BoxAt W (w.heap.size + 1) b ∧ BoxAt W (w.heap.size + 1 + 1) c ∧ BoxAt W (w.heap.size + 1 + 1 + 1) d ∧ W.heap.size = w.heap.size + 4 ∧ Below w.heap.size w W := by
  obtain ⟨b1, b2, b3, hz, hb⟩ := boxes3 w a b c ta tb tc _ rfl
  have b4 := BoxAt.new (((w.alloc (.cells a.toArray ta)).alloc (.cells b.toArray tb)).alloc (.cells c.toArray tc)) d td
  rw [hz] at b4
  rw [h]
  exact ⟨b1.alloc _, b2.alloc _, b3.alloc _, b4, by rw [World.size_alloc, hz], hb.alloc (by omega) _⟩
theorem BoxAt.three {W : World} {g : Nat} {a b c : Value} (h : BoxAt W g [a, b, c]) :
    W.cell? ⟨g, 0, none⟩ = some a ∧ W.cell? ⟨g, 1, none⟩ = some b ∧ W.cell? ⟨g, 2, none⟩ = some c ∧ (∀ o, W.frozen? ⟨g, o, none⟩ = false) ∧ g < W.heap.size :=
  ⟨h.1 0 _ rfl, h.1 1 _ rfl, h.1 2 _ rfl, h.2⟩
set_option maxRecDepth 100000 in
set_option maxHeartbeats 4000000 in
theorem merged_dead (f g : FuncId) (w : World) : Calls Tryz.prog 170 #[.agg #[.bool true, .slice none 0 0, .slice none 0 0, .slice none 0 0, .slice none 0 0, .int .i64 0, .int .i64 0, .int .i64 0], .agg #[.bool true, .slice none 0 0, .slice none 0 0, .slice none 0 0, .slice none 0 0, .int .i64 0, .int .i64 0, .int .i64 0], .func (.func f) #[] #[], .func (.func g) #[] #[]] w fun e w' => e = .returned (.agg #[.bool true, .slice none 0 0, .slice none 0 0, .slice none 0 0, .slice none 0 0, .int .i64 0, .int .i64 0, .int .i64 0]) ∧ Below w.heap.size w w' := by
  go_enter Tryz.func170, Tryz.ntmps170
  go_upto_region 1 with (fail)
  obtain ⟨W, hW⟩ : ∃ V, V = (((w.alloc (.cells ([.bool true, .slice none 0 0, .slice none 0 0, .slice none 0 0, .slice none 0 0, .int .i64 0, .int .i64 0, .int .i64 0]).toArray 164)).alloc (.cells ([.bool true, .slice none 0 0, .slice none 0 0, .slice none 0 0, .slice none 0 0, .int .i64 0, .int .i64 0, .int .i64 0]).toArray 164)).alloc (.cells [.func (.func f) #[] #[]].toArray 202)).alloc (.cells ([.bool false, .slice none 0 0, .slice none 0 0, .slice none 0 0, .slice none 0 0, .int .i64 0, .int .i64 0, .int .i64 0]).toArray 164) := ⟨_, rfl⟩
  obtain ⟨b4, b5, b6, b8, hz, hbW⟩ := boxes4 w _ _ _ _ _ _ _ _ W hW
  rw [← hW]
  clear hW
  obtain ⟨k0, k1, k2, k3, k4, k5, k6, k7, kf, kz⟩ := b4.eight
  obtain ⟨m0, m1, m2, m3, m4, m5, m6, m7, mf, mz⟩ := b5.eight
  obtain ⟨q0, q1, q2, q3, q4, q5, q6, q7, qf, qz⟩ := b8.eight
  have H8 := hide b8
  clear b4 b5 b6 b8
  go_wp2_with fail
  exact bodyPost_ret (res_fact rfl rfl (H8.out.set8 _ _ _ _ _ _ _ _)) rfl ⟨rfl, (by repeat (first | with_reducible exact hbW | with_reducible exact Below.refl _ _ | with_reducible refine Below.setCell ?_ (by simp <;> omega) _ | with_reducible refine below_drewN ?_ _ | with_reducible refine Below.drew ?_ | with_reducible refine Below.alloc ?_ (by simp <;> omega) _ | with_reducible refine Below.setCell ?_ (by simp <;> omega) _ | with_reducible refine Below.alloc ?_ (by simp <;> omega) _ | with_reducible refine Below.setCell ?_ (by omega) _ | with_reducible refine Below.alloc ?_ (by omega) _ | omega | (simp; done)))⟩
set_option maxRecDepth 100000 in
set_option maxHeartbeats 4000000 in
theorem join_dead (w : World) : Calls Tryz.prog 140 #[.agg #[.bool true, .slice none 0 0, .slice none 0 0, .slice none 0 0, .slice none 0 0, .int .i64 0, .int .i64 0, .int .i64 0], .agg #[.bool true, .slice none 0 0, .slice none 0 0, .slice none 0 0, .slice none 0 0, .int .i64 0, .int .i64 0, .int .i64 0]] w fun e w' => e = .returned (.agg #[.bool true, .slice none 0 0, .slice none 0 0, .slice none 0 0, .slice none 0 0, .int .i64 0, .int .i64 0, .int .i64 0]) ∧ Below w.heap.size w w' := by
  go_enter Tryz.func140, Tryz.ntmps140
  go_upto_region 1 with (fail)
  obtain ⟨W, hW⟩ : ∃ V, V = ((w.alloc (.cells ([.bool true, .slice none 0 0, .slice none 0 0, .slice none 0 0, .slice none 0 0, .int .i64 0, .int .i64 0, .int .i64 0]).toArray 164)).alloc (.cells ([.bool true, .slice none 0 0, .slice none 0 0, .slice none 0 0, .slice none 0 0, .int .i64 0, .int .i64 0, .int .i64 0]).toArray 164)).alloc (.cells ([.bool false, .slice none 0 0, .slice none 0 0, .slice none 0 0, .slice none 0 0, .int .i64 0, .int .i64 0, .int .i64 0]).toArray 164) := ⟨_, rfl⟩
  obtain ⟨b2, b3, b4, hz, hbW⟩ := boxes3 w _ _ _ _ _ _ W hW
  rw [← hW]
  clear hW
  obtain ⟨k0, k1, k2, k3, k4, k5, k6, k7, kf, kz⟩ := b2.eight
  obtain ⟨m0, m1, m2, m3, m4, m5, m6, m7, mf, mz⟩ := b3.eight
  have H4 := hide b4
  clear b2 b3 b4
  go_wp2_with (go_at_call 170; refine (merged_dead _ _ _).mono ?_; rintro e w1 ⟨rfl, hb1⟩; have H5 := hide (H4.out.below hb1); obtain ⟨q0, q1, q2, q3, q4, q5, q6, q7, qf, qz⟩ := H5.out.eight; have hB1 : Below w.heap.size w w1 := hbW.trans (hb1.mono hbW.size))
  exact bodyPost_ret (res_fact rfl rfl (H5.out.set8 _ _ _ _ _ _ _ _)) rfl ⟨rfl, (by repeat (first | with_reducible exact hB1 | with_reducible exact Below.refl _ _ | with_reducible refine Below.setCell ?_ (by simp <;> omega) _ | with_reducible refine below_drewN ?_ _ | with_reducible refine Below.drew ?_ | with_reducible refine Below.alloc ?_ (by simp <;> omega) _ | with_reducible refine Below.setCell ?_ (by simp <;> omega) _ | with_reducible refine Below.alloc ?_ (by simp <;> omega) _ | with_reducible refine Below.setCell ?_ (by omega) _ | with_reducible refine Below.alloc ?_ (by omega) _ | omega | (simp; done)))⟩
end Go.Proofs.YthhfakkfdohcpaaGreat
