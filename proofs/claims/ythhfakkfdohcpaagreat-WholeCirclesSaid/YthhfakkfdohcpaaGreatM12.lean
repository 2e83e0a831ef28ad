/- The sites of a definition; what it calls. No condition. -/
import Derived.Test.YthhfakkfdohcpaaGreatM11
import Derived.Test.YthhfakkfdohcpaaGreatShelf
import Derived.Test.YthhfakkfdohcpaaGreatM01
import Derived.Test.YthhfakkfdohcpaaGreatM05
namespace Go.Proofs.YthhfakkfdohcpaaGreat
open Go.RowKit Go.Shelf
attribute [local go_sem] Oper.semAt_some
theorem RawAt.new {W W' : World} {k : Nat} {vs : List Value} {t : TypeId} (h : RawAt W k vs t) (hb : Below W.heap.size W W') : RawAt W' k vs t := (hb.block k (Array.getElem?_eq_some_iff.1 h).1).trans h
theorem KpS.new {n₀ : Nat} {W W' : World} (hn : n₀ ≤ W.heap.size) (hb : Below W.heap.size W W') : KpS n₀ W W' := ⟨hb.mono hn, fun _k _vs h => RawAt.new h hb⟩
theorem raw_appended {W w1 : World} {n₀ B : Nat} {t e T : TypeId} {size : Nat} {v v' : Value} {k : Nat} {xs : List Value} {tmp : Obj}
    (hv : Boxed W B t v) (hrow : W.ownsRow n₀ e size v k xs) (ht : t ≠ T) (he : e ≠ T) (hgrow : (W.alloc tmp).grownBy w1 v.ownBlock) {i : Nat} {vs : List Value} (hi : RawAt W i vs T) : RawAt (w1.setCell ⟨B, 0, none⟩ v') i vs T ∧ RawAt w1 i vs T := by
  have hlt := (Array.getElem?_eq_some_iff.1 hi).1
  have h1 : i ≠ B := by
    rintro rfl
    have := (show W.heap[i]? = _ from hv).symm.trans hi
    simp at this
    exact ht this.2
  have h2 : some i ≠ v.ownBlock := by
    rcases hrow.2 with ⟨rfl, _⟩ | ⟨g, cap, cur, rfl, _, hgb, _⟩
    · simp [Value.ownBlock]
    · intro e'
      obtain rfl : i = g := by simpa [Value.ownBlock] using e'
      have := hgb.symm.trans hi
      simp at this
      exact he this.2
  have h3 : w1.heap[i]? = W.heap[i]? := (hgrow.block i (by simp; omega) h2).trans (Below.heap_alloc W tmp i hlt)
  exact ⟨((Below.heap_setCell _ _ _ _ h1).trans h3).trans hi, h3.trans hi⟩
theorem kpS_appended {W w1 : World} {n₀ B : Nat} {t e : TypeId} {size : Nat} {v v' : Value} {k : Nat} {xs : List Value} {tmp : Obj}
    (hv : Boxed W B t v) (hrow : W.ownsRow n₀ e size v k xs) (ht : t ≠ 121) (he : e ≠ 121) (hgrow : (W.alloc tmp).grownBy w1 v.ownBlock) (hb : Below n₀ W (w1.setCell ⟨B, 0, none⟩ v')) : KpS n₀ W (w1.setCell ⟨B, 0, none⟩ v') :=
  ⟨hb, fun _i _vs hi => (raw_appended hv hrow ht he hgrow hi).1⟩
theorem keeps_appended {W w1 : World} {n₀ : Nat} {e : TypeId} {size : Nat} {v : Value} {k : Nat} {xs : List Value} {tmp : Obj} (hrow : W.ownsRow n₀ e size v k xs) (hgrow : (W.alloc tmp).grownBy w1 v.ownBlock) : KeepsOthers W w1 := by
  refine (KeepsOthers.alloc W tmp).trans (KeepsOthers.of_grownBy hgrow fun j o ej hj => ?_)
  rcases (hrow.alloc tmp).2 with ⟨rfl, _⟩ | ⟨g, cap, cur, rfl, _, hgb, _⟩
  · simp [Value.ownBlock] at ej
  · obtain rfl : g = j := by simpa [Value.ownBlock] using ej
    rw [hgb] at hj; cases hj; rfl
theorem below_appended {W w1 : World} {n₀ : Nat} {e : TypeId} {size : Nat} {v : Value} {k : Nat} {xs : List Value} {tmp : Obj} (hrow : W.ownsRow n₀ e size v k xs) (hn₀ : n₀ ≤ W.heap.size) (hgrow : (W.alloc tmp).grownBy w1 v.ownBlock) : Below n₀ W w1 :=
  ((Below.refl n₀ W).alloc hn₀ tmp).grown hgrow (by simp; omega) fun j ej => by
    rcases hrow.2 with ⟨rfl, _⟩ | ⟨g, cap, cur, rfl, hb, _, _⟩
    · simp [Value.ownBlock] at ej
    · obtain rfl : g = j := by simpa [Value.ownBlock] using ej
      exact hb
theorem plL_one (s : St) : ∀ u ∈ plL s, u.oneCell' = true := by
  intro u hu
  simp only [plL, stV, stL, List.cons_append, List.nil_append, List.mem_cons, List.not_mem_nil, or_false] at hu
  rcases hu with rfl | rfl | rfl | rfl | rfl | rfl | rfl | rfl | rfl | rfl | rfl | rfl | rfl | rfl | rfl | rfl | rfl | rfl | rfl | rfl | rfl <;> rfl
def plZ : List Value := (plL (0, 0, 0)).set 20 (.int .i64 0)
def siV (l : List Int) : List Value := l.map (Value.int .i64)
def SitTo (w : World) (l : List Int) (e : Ending) (w' : World) : Prop := ∃ v, e = .returned v ∧ w'.ownsRow w.heap.size 3 1 v l.length (siV l) ∧ Below w.heap.size w w'
set_option maxRecDepth 100000 in
set_option maxHeartbeats 4000000 in
theorem sites_in (F : Fence) (n : Nat) (hd : F.depth = none) (h110 : F.fn 110) (h94 : F.fn 94) (h5 : F.fn 126) (hf : F.fn 127) (hro : F.round = none) (hn : 3 ≤ n) (sb : Nat) (ss : List St) (hlen : ss.length ≤ 100) (id ds : Int) (nm : ByteArray) (w : World) (hB : BodyAt w sb ss) :
    CallsIn F n Tryz.prog 110 #[.agg (dfL id ds (.string nm) (.slice (some ⟨sb, 0, none⟩) ss.length ss.length)).toArray] w (SitTo w (ss.map (·.1) ++ [ds])) := by
  have h1 : 1 ≤ n := by omega
  obtain ⟨i0, hi, hz0, hz1, hz2⟩ := info_parts (show (Tryz.prog.info? 3).map (fun i => (i.zero, i.size, i.bytes)) = some (some (.int .i64 0), 1, 8) by kernel_rfl)
  refine callsIn_of_wp_marks Tryz.func110 rfl h110 ?_ hro
  simp only [dfL, Tryz.ntmps110, List.size_toArray, List.length_cons, List.length_nil, Nat.reduceAdd, Nat.reduceSub, Array.replicate_succ, Array.replicate_zero, List.push_toArray, List.append_toArray, List.nil_append, List.cons_append]
  gi_wp2_with (gi_at_call 94; refine (all_in F (n - 1) h94 hro _ _ _ _).mono ?_; rintro e w' ⟨rfl, rfl⟩)
  obtain ⟨W0, hW0⟩ : ∃ V, V = (((w.alloc (.cells (dfL id ds (.string nm) (.slice (some ⟨sb, 0, none⟩) ss.length ss.length)).toArray 83)).alloc (.cells #[.slice none 0 0] 42)).alloc (.cells #[.slice (some ⟨sb, 0, none⟩) ss.length ss.length] 81)).alloc (.cells #[.int .i64 1] 3) := ⟨_, rfl⟩
  have hb4 := boxes4 w _ [.slice none 0 0] [.slice (some ⟨sb, 0, none⟩) ss.length ss.length] [.int .i64 1] _ _ _ _ W0 hW0
  have bO : Boxed W0 (w.heap.size + 1) 42 (.slice none 0 0) := by
    rw [hW0]
    have := ((Boxed.new (w.alloc (.cells (dfL id ds (.string nm) (.slice (some ⟨sb, 0, none⟩) ss.length ss.length)).toArray 83)) 42 (.slice none 0 0)).alloc (.cells #[.slice (some ⟨sb, 0, none⟩) ss.length ss.length] 81)).alloc (.cells #[.int .i64 1] 3)
    rwa [World.size_alloc] at this
  have bR : RawAt W0 w.heap.size (dfL id ds (.string nm) (.slice (some ⟨sb, 0, none⟩) ss.length ss.length)) 83 := by
    rw [hW0]
    exact (Below.heap_alloc _ _ _ (by simp; omega)).trans ((Below.heap_alloc _ _ _ (by simp; omega)).trans ((Below.heap_alloc _ _ _ (by simp)).trans (heap_alloc_new w _)))
  have hW' := hW0
  simp only [dfL] at hW'
  rw [← hW']
  clear hW0 hW'
  obtain ⟨b1, -, b3, b4, hz, hbW⟩ := hb4
  have c3 := b3.1 0 _ rfl
  have c4 := b4.1 0 _ rfl
  clear b1 b3 b4
  refine wpIn_rangeFunc_ownH hro h1 (gf := 126) (lb := #[.pointer (some ⟨w.heap.size + 2, 0, none⟩), .pointer (some ⟨w.heap.size + 2 + 1, 0, none⟩)]) rfl h5 (enters_of Tryz.func126 (by kernel_rfl) rfl)
    (all_stops F hd (n - 1) h5 hf hro (w.heap.size + 2) (w.heap.size + 2 + 1) w.heap.size sb ss hlen W0 (by omega) (by omega) (by omega) hB.2.2 c3 c4 (BoxAt.below hB hbW)) (fun h k => KpS.trans h k) (fun W l o o' h2 h3 h4 h5 => kpS_b (by omega) W l o o' h2 h3 h4 h5) (Below.refl _ _) (fun _ => rfl)
    (fun pre W => (∃ v, Boxed W (w.heap.size + 1) 42 v ∧ W.ownsRow w.heap.size 3 1 v pre.length (siV (pre.map (·.1))) ∧ True) ∧ Below w.heap.size w W ∧ RawAt W w.heap.size (dfL id ds (.string nm) (.slice (some ⟨sb, 0, none⟩) ss.length ss.length)) 83)
    (fun _ _ _ => False)
    ?hI
    (fun _ _ _ _ _ hs _ _ => hs)
    ⟨⟨_, bO, World.ownsRow_nil _ _ _ _, trivial⟩, hbW, bR⟩
    (fun x a' W => ∃ Bx, w.heap.size + 1 < Bx ∧ RawAt W Bx (plL x) 197 ∧ a' = { tmps := #[.agg #[.int .i64 id, .int .i64 ds, .string nm, .int .i64 0, .int .i64 0, .slice none 0 0, .slice none 0 0, .int .i64 0, .int .i64 0, .slice none 0 0, .int .i64 100, .slice (some ⟨sb, 0, none⟩) ss.length ss.length], .pointer (some ⟨w.heap.size, 0, none⟩), .slice none 0 0, .pointer (some ⟨w.heap.size + 1, 0, none⟩), .pointer (some ⟨Bx, 0, none⟩), .pointer (some ⟨w.heap.size, 11, none⟩), .slice (some ⟨sb, 0, none⟩) ss.length ss.length, .func (.func 126) #[] #[.pointer (some ⟨w.heap.size + 2, 0, none⟩), .pointer (some ⟨w.heap.size + 2 + 1, 0, none⟩)], .agg (plL x).toArray, undef, undef, undef, undef, undef, undef, undef, undef, undef, undef, undef], defers := [] })
    ?hAx
    ?assign ?body ?done ?stop
  case hI => exact OwnFrom.and (Own.from (holdsRow_own w.heap.size (w.heap.size + 1) 42 3 1 (fun pre : List St => pre.length) (fun pre : List St => siV (pre.map (·.1))) (fun _ _ => True)) _) (OwnFrom.and (ownFrom_below (Nat.le_refl _) (by omega)) (fun s X Y row hs hg hr => (hg.block _ (Array.getElem?_eq_some_iff.1 hs).1 (fun e => by have := (hr _ e.symm).1; omega)).trans hs))
  case hAx =>
    intro x a' u X Y row hs hg hr
    obtain ⟨Bx, g1, g2, g3⟩ := hs
    refine ⟨Bx, g1, (hg.block Bx (Array.getElem?_eq_some_iff.1 g2).1 (fun e' => ?_)).trans g2, g3⟩
    obtain ⟨_, o, ho, hc⟩ := hr Bx e'.symm
    rw [show X.heap[Bx]? = _ from g2] at ho
    cases ho
    cases hc
  case assign =>
    rintro l pre x W K ⟨⟨v, hv, hrow, -⟩, hB1, hbox⟩ hK
    gi_wp2_with ((with_reducible refine wpListIn_store_raw ?_ ?_ ?_ 197 (.tmp 4) (.tmp 8) ?_ (plL x) ?_ ?_ ?_ ?_ ?_ ?_); (focus rfl); (focus rfl); (focus rfl); (focus rfl); (focus rfl); (focus rfl); (focus rfl); (focus kernel_rfl); (focus exact plL_one x); intro V hV hzV hbV hkV)
    exact hK _ _ (hkV.from _) (KpS.new hB1.size hbV) ⟨⟨v, (hbV.block _ hv.lt).trans hv, hrow.kept (row := none) ⟨hbV.os, hbV.tape, hbV.output, hbV.size, fun k hk _ => hbV.block k hk⟩ (by cases hb : v.ownBlock with | none => exact .inl rfl | some q => exact .inr (by simp)), trivial⟩, hB1.trans (hbV.mono hB1.size), hbox.new hbV⟩ ⟨W.heap.size, hv.lt, hV, rfl⟩
  case body =>
    rintro l pre x a' W hl ⟨r, hr⟩ ⟨⟨v, hv, hrow, -⟩, hB1, hbox⟩ ⟨Bx, hBx, hX, rfl⟩ hlt
    have hc := hv.cell
    have cX : W.cell? ⟨Bx, 0, none⟩ = some (.int .i64 x.1) := hX.box.1 0 _ rfl
    have HX := hide hX
    have Hbox := hide hbox
    clear hX hbox
    gi_wp2_with (gi_at_builtin; refine wpListIn_append_own _ rfl _ _ 42 rfl w.heap.size 3 i0 (.int .i64 0) 1 8 Tryz.underlying42 hi hz0 hz1 hz2 rfl (by decide) _ _ _ rfl (hrow.alloc _) ⟨W.heap.size, 0, none⟩ 1 1 [.int .i64 x.1] rfl rfl (cell_one_new _ _ _) (by simp [Value.oneCell']) (by unfold maxLen; omega) (by omega) (by have := hB1.size; simp; omega) ?_; intro v' w1 hown' hgrow _; obtain ⟨g', cap', rfl⟩ := ownsRow_succ hown'; obtain ⟨hv1, hv2, hr2, hk2, hb2⟩ := hv.appended (by decide) hrow hB1.size (by omega) hown' hgrow; have hc1 := hv1.cell; have hf1 := hv1.frozen)
    exact ⟨hk2.from _, kpS_appended hv hrow (by decide) (by decide) hgrow hb2, ⟨_, hv2, by simpa [siV] using hr2, trivial⟩, hB1.trans hb2, (raw_appended hv hrow (by decide) (by decide) hgrow Hbox.out).1⟩
  case done =>
    rintro D ys W hD rfl ⟨⟨v, hv, hrow, -⟩, hB1, hbox⟩ hK
    have hc := hv.cell
    have cd : W.cell? ⟨w.heap.size, 1, none⟩ = some (.int .i64 ds) := hbox.box.1 1 _ rfl
    clear hbox
    gi_wp2_with (gi_at_builtin; refine wpListIn_append_own _ rfl _ _ 42 rfl w.heap.size 3 i0 (.int .i64 0) 1 8 Tryz.underlying42 hi hz0 hz1 hz2 rfl (by decide) _ _ _ rfl (hrow.alloc _) ⟨W.heap.size, 0, none⟩ 1 1 [.int .i64 ds] rfl rfl (cell_one_new _ _ _) (by simp [Value.oneCell']) (by unfold maxLen; omega) (by omega) (by have := hB1.size; simp; omega) ?_; intro v' w1 hown' hgrow _; have hk1 := hide (keeps_appended hrow hgrow); have hb1 := hide (below_appended hrow hB1.size hgrow); have HO := hide hown'; clear hown' hgrow)
    have hK1 := hk1.out.same D _ hK rfl
    refine ⟨by simp, .inl ⟨_, _, rfl, run_takeDeferred hK1, ?_⟩⟩
    exact ⟨_, results_tmp rfl _ _ _, _, rfl, by have := ownsRow_putObj HO.out (.deferred none) hK1 rfl; simpa [siV] using this, (hB1.trans hb1.out).trans (belowK_b (w := w) (Nat.le_refl _) w1 D _ _ (by omega) hK1 rfl rfl)⟩
  case stop =>
    rintro D c pre W _ _ h _
    exact h.elim
/-- What a body calls. -/
def clF (l : List St) : List Int := (l.filter fun s => s.2.1 == 13).map (·.2.2)
theorem clF_hit (pre : List St) {x : St} (h : x.2.1 = 13) : clF (pre ++ [x]) = clF pre ++ [x.2.2] := by simp [clF, h]
theorem clF_miss (pre : List St) {x : St} (h : ¬ x.2.1 = 13) : clF (pre ++ [x]) = clF pre := by simp [clF, h]
set_option maxRecDepth 100000 in
set_option maxHeartbeats 4000000 in
theorem calls_in (n : Nat) (hn : 3 ≤ n) (sb : Nat) (ss : List St) (hlen : ss.length ≤ 100) (id ds : Int) (nm : ByteArray) (w : World) (hB : BodyAt w sb ss) (hc0 : clF ss = []) :
    CallsIn Fence.wide n Tryz.prog 66 #[.agg (dfL id ds (.string nm) (.slice (some ⟨sb, 0, none⟩) ss.length ss.length)).toArray] w fun e w' => e = .returned (.slice none 0 0) ∧ Below w.heap.size w w' := by
  have h1 : 1 ≤ n := by omega
  obtain ⟨i0, hi, hz0, hz1, hz2⟩ := info_parts (show (Tryz.prog.info? 3).map (fun i => (i.zero, i.size, i.bytes)) = some (some (.int .i64 0), 1, 8) by kernel_rfl)
  refine callsIn_of_wp_marks Tryz.func66 rfl trivial ?_ rfl
  simp only [dfL, Tryz.ntmps66, List.size_toArray, List.length_cons, List.length_nil, Nat.reduceAdd, Nat.reduceSub, Array.replicate_succ, Array.replicate_zero, List.push_toArray, List.append_toArray, List.nil_append, List.cons_append]
  gi_wp2_with ((try refine ⟨trivial, ?_⟩); gi_at_call 94; refine (all_in Fence.wide (n - 1) trivial rfl _ _ _ _).mono ?_; rintro e w' ⟨rfl, rfl⟩)
  obtain ⟨W0, hW0⟩ : ∃ V, V = (((w.alloc (.cells (dfL id ds (.string nm) (.slice (some ⟨sb, 0, none⟩) ss.length ss.length)).toArray 83)).alloc (.cells #[.slice none 0 0] 42)).alloc (.cells #[.slice (some ⟨sb, 0, none⟩) ss.length ss.length] 81)).alloc (.cells #[.int .i64 1] 3) := ⟨_, rfl⟩
  have hb4 := boxes4 w _ [.slice none 0 0] [.slice (some ⟨sb, 0, none⟩) ss.length ss.length] [.int .i64 1] _ _ _ _ W0 hW0
  have bO : Boxed W0 (w.heap.size + 1) 42 (.slice none 0 0) := by
    rw [hW0]
    have := ((Boxed.new (w.alloc (.cells (dfL id ds (.string nm) (.slice (some ⟨sb, 0, none⟩) ss.length ss.length)).toArray 83)) 42 (.slice none 0 0)).alloc (.cells #[.slice (some ⟨sb, 0, none⟩) ss.length ss.length] 81)).alloc (.cells #[.int .i64 1] 3)
    rwa [World.size_alloc] at this
  have bR : RawAt W0 w.heap.size (dfL id ds (.string nm) (.slice (some ⟨sb, 0, none⟩) ss.length ss.length)) 83 := by
    rw [hW0]
    exact (Below.heap_alloc _ _ _ (by simp; omega)).trans ((Below.heap_alloc _ _ _ (by simp; omega)).trans ((Below.heap_alloc _ _ _ (by simp)).trans (heap_alloc_new w _)))
  have hW' := hW0
  simp only [dfL] at hW'
  rw [← hW']
  clear hW0 hW'
  obtain ⟨b1, -, b3, b4, hz, hbW⟩ := hb4
  have c3 := b3.1 0 _ rfl
  have c4 := b4.1 0 _ rfl
  clear b1 b3 b4
  refine wpIn_rangeFunc_ownH rfl h1 (gf := 126) (lb := #[.pointer (some ⟨w.heap.size + 2, 0, none⟩), .pointer (some ⟨w.heap.size + 2 + 1, 0, none⟩)]) rfl trivial (enters_of Tryz.func126 (by kernel_rfl) rfl)
    (all_stops Fence.wide rfl (n - 1) trivial trivial rfl (w.heap.size + 2) (w.heap.size + 2 + 1) w.heap.size sb ss hlen W0 (by omega) (by omega) (by omega) hB.2.2 c3 c4 (BoxAt.below hB hbW)) (fun h k => KpS.trans h k) (fun W l o o' h2 h3 h4 h5 => kpS_b (by omega) W l o o' h2 h3 h4 h5) (Below.refl _ _) (fun _ => rfl)
    (fun pre W => (∃ v, Boxed W (w.heap.size + 1) 42 v ∧ W.ownsRow w.heap.size 3 1 v (clF pre).length (siV (clF pre)) ∧ (v = .slice none 0 0 ↔ clF pre = [])) ∧ Below w.heap.size w W ∧ RawAt W w.heap.size (dfL id ds (.string nm) (.slice (some ⟨sb, 0, none⟩) ss.length ss.length)) 83)
    (fun _ _ _ => False)
    ?hI
    (fun _ _ _ _ _ hs _ _ => hs)
    ⟨⟨_, bO, World.ownsRow_nil _ _ _ _, by simp [clF]⟩, hbW, bR⟩
    (fun x a' W => ∃ Bx, w.heap.size + 1 < Bx ∧ RawAt W Bx (plL x) 197 ∧ a' = { tmps := #[.agg #[.int .i64 id, .int .i64 ds, .string nm, .int .i64 0, .int .i64 0, .slice none 0 0, .slice none 0 0, .int .i64 0, .int .i64 0, .slice none 0 0, .int .i64 100, .slice (some ⟨sb, 0, none⟩) ss.length ss.length], .pointer (some ⟨w.heap.size, 0, none⟩), .slice none 0 0, .pointer (some ⟨w.heap.size + 1, 0, none⟩), .pointer (some ⟨Bx, 0, none⟩), .pointer (some ⟨w.heap.size, 11, none⟩), .slice (some ⟨sb, 0, none⟩) ss.length ss.length, .func (.func 126) #[] #[.pointer (some ⟨w.heap.size + 2, 0, none⟩), .pointer (some ⟨w.heap.size + 2 + 1, 0, none⟩)], .agg (plL x).toArray, undef, undef, undef, undef, undef, undef, undef, undef, undef, undef, undef, undef, undef, undef], defers := [] })
    ?hAx
    ?assign ?body ?done ?stop
  case hI => exact OwnFrom.and (Own.from (holdsRow_own w.heap.size (w.heap.size + 1) 42 3 1 (fun pre : List St => (clF pre).length) (fun pre : List St => siV (clF pre)) (fun pre v => v = .slice none 0 0 ↔ clF pre = [])) _) (OwnFrom.and (ownFrom_below (Nat.le_refl _) (by omega)) (fun s X Y row hs hg hr => (hg.block _ (Array.getElem?_eq_some_iff.1 hs).1 (fun e => by have := (hr _ e.symm).1; omega)).trans hs))
  case hAx =>
    intro x a' u X Y row hs hg hr
    obtain ⟨Bx, g1, g2, g3⟩ := hs
    refine ⟨Bx, g1, (hg.block Bx (Array.getElem?_eq_some_iff.1 g2).1 (fun e' => ?_)).trans g2, g3⟩
    obtain ⟨_, o, ho, hc⟩ := hr Bx e'.symm
    rw [show X.heap[Bx]? = _ from g2] at ho
    cases ho
    cases hc
  case assign =>
    rintro l pre x W K ⟨⟨v, hv, hrow, hnil⟩, hB1, hbox⟩ hK
    gi_wp2_with ((with_reducible refine wpListIn_store_raw ?_ ?_ ?_ 197 (.tmp 4) (.tmp 8) ?_ (plL x) ?_ ?_ ?_ ?_ ?_ ?_); (focus rfl); (focus rfl); (focus rfl); (focus rfl); (focus rfl); (focus rfl); (focus rfl); (focus kernel_rfl); (focus exact plL_one x); intro V hV hzV hbV hkV)
    exact hK _ _ (hkV.from _) (KpS.new hB1.size hbV) ⟨⟨v, (hbV.block _ hv.lt).trans hv, hrow.kept (row := none) ⟨hbV.os, hbV.tape, hbV.output, hbV.size, fun k hk _ => hbV.block k hk⟩ (by cases hb : v.ownBlock with | none => exact .inl rfl | some q => exact .inr (by simp)), hnil⟩, hB1.trans (hbV.mono hB1.size), hbox.new hbV⟩ ⟨W.heap.size, hv.lt, hV, rfl⟩
  case body =>
    rintro l pre x a' W hl ⟨r, hr⟩ ⟨⟨v, hv, hrow, hnil⟩, hB1, hbox⟩ ⟨Bx, hBx, hX, rfl⟩ hlt
    have hc := hv.cell
    have cX : W.cell? ⟨Bx, 1, none⟩ = some (.int .i64 x.2.1) := hX.box.1 1 _ rfl
    have cY : W.cell? ⟨Bx, 3, none⟩ = some (.int .i64 x.2.2) := hX.box.1 3 _ rfl
    have HX := hide hX
    have Hbox := hide hbox
    have Hnil := hide hnil
    have hpl : (clF pre).length ≤ pre.length := by unfold clF; rw [List.length_map]; exact List.length_filter_le _ _
    clear hX hbox hnil
    by_cases h13 : x.2.1 = 13
    · have hf13 := hide (clF_hit pre h13)
      gi_wp2_with (gi_at_builtin; refine wpListIn_append_own _ rfl _ _ 42 rfl w.heap.size 3 i0 (.int .i64 0) 1 8 Tryz.underlying42 hi hz0 hz1 hz2 rfl (by decide) _ _ _ rfl (hrow.alloc _) ⟨W.heap.size, 0, none⟩ 1 1 [.int .i64 x.2.2] rfl rfl (cell_one_new _ _ _) (by simp [Value.oneCell']) (by unfold maxLen; omega) (by omega) (by have := hB1.size; simp; omega) ?_; intro v' w1 hown' hgrow _; obtain ⟨g', cap', rfl⟩ := ownsRow_succ hown'; obtain ⟨hv1, hv2, hr2, hk2, hb2⟩ := hv.appended (by decide) hrow hB1.size (by omega) hown' hgrow; have hc1 := hv1.cell; have hf1 := hv1.frozen)
      exact ⟨hk2.from _, kpS_appended hv hrow (by decide) (by decide) hgrow hb2, ⟨_, hv2, by rw [hf13.out]; simpa [siV] using hr2, by rw [hf13.out]; simp⟩, hB1.trans hb2, (raw_appended hv hrow (by decide) (by decide) hgrow Hbox.out).1⟩
    · have hf13 := hide (clF_miss pre h13)
      gi_wp2
      exact ⟨KeepsFrom.refl _ _, KpS.refl _ _, ⟨v, hv, by rw [hf13.out]; exact hrow, by rw [hf13.out]; exact Hnil.out⟩, hB1, Hbox.out⟩
  case done =>
    rintro D ys W hD rfl ⟨⟨v, hv, hrow, hnil⟩, hB1, hbox⟩ hK
    obtain rfl := hnil.2 hc0
    have hc := hv.cell
    clear hbox hnil hrow
    gi_wp2_with (first
      | ((try refine ⟨trivial, ?_⟩); gi_at_call 95; refine (callsIn_wide.2 (Tryz.slices_Sort_int_none none 0 _)).mono ?_; rintro e w1 ⟨rfl, hw1⟩; cases hw1)
      | ((try refine ⟨trivial, ?_⟩); gi_at_call 96; refine (callsIn_wide.2 (Tryz.slices_Compact_int_empty none 0 _)).mono ?_; rintro e w1 ⟨rfl, hw1⟩; cases hw1))
    refine ⟨by simp, .inl ⟨_, _, rfl, run_takeDeferred hK, ?_⟩⟩
    exact ⟨_, results_tmp rfl _ _ _, rfl, hB1.trans (belowK_b (w := w) (Nat.le_refl _) W D _ _ (by omega) hK rfl rfl)⟩
  case stop =>
    rintro D c pre W _ _ h _
    exact h.elim
theorem sites_any (sb : Nat) (ss : List St) (hlen : ss.length ≤ 100) (id ds : Int) (nm : ByteArray) (w : World) (hB : BodyAt w sb ss) :
    Calls Tryz.prog 110 #[.agg (dfL id ds (.string nm) (.slice (some ⟨sb, 0, none⟩) ss.length ss.length)).toArray] w (SitTo w (ss.map (·.1) ++ [ds])) :=
  callsIn_wide.1 (sites_in Fence.wide 3 rfl trivial trivial trivial trivial rfl (Nat.le_refl _) sb ss hlen id ds nm w hB)
theorem calls_any (sb : Nat) (ss : List St) (hlen : ss.length ≤ 100) (id ds : Int) (nm : ByteArray) (w : World) (hB : BodyAt w sb ss) (hc0 : clF ss = []) :
    Calls Tryz.prog 66 #[.agg (dfL id ds (.string nm) (.slice (some ⟨sb, 0, none⟩) ss.length ss.length)).toArray] w fun e w' => e = .returned (.slice none 0 0) ∧ Below w.heap.size w w' :=
  callsIn_wide.1 (calls_in 3 (Nat.le_refl _) sb ss hlen id ds nm w hB hc0)
end Go.Proofs.YthhfakkfdohcpaaGreat
/- HeadOf, at the heads of the examples. No condition. -/
namespace Go.Proofs.YthhfakkfdohcpaaGreat
open Go.RowKit

theorem BoxAt.set5 {W : World} {g : Nat} {a b c d e : Value} (h : BoxAt W g [a, b, c, d, e]) (b0 b1 b2 b3 b4 : Value) :
    BoxAt (((((W.setCell ⟨g, 0, none⟩ b0).setCell ⟨g, 1, none⟩ b1).setCell ⟨g, 2, none⟩ b2).setCell ⟨g, 3, none⟩ b3).setCell ⟨g, 4, none⟩ b4) g [b0, b1, b2, b3, b4] :=
  ((((h.set 0 (by simp) b0).set 1 (by simp) b1).set 2 (by simp) b2).set 3 (by simp) b3).set 4 (by simp) b4
theorem res_head {fn : Func} {t u : Nat} {x : Value} {tmps : Array Value} {W : World} {g : Nat} {a b c d e : Value} (hr : fn.results = #[.cell t 86, .tmp u]) (ht : tmps.getD t undef = .pointer (some ⟨g, 0, none⟩)) (hu : tmps.getD u undef = x) (h : BoxAt W g [a, b, c, d, e]) :
    (results fn tmps).run Tryz.prog W = .ok (.tuple #[.agg #[a, b, c, d, e], x]) W := by
  obtain ⟨k0, k1, k2, k3, k4, -, -⟩ := h.five
  have ht' : tmps[t]?.getD undef = .pointer (some ⟨g, 0, none⟩) := by rw [← ht]; simp [Array.getD_eq_getD_getElem?]
  have hu' : tmps[u]?.getD undef = x := by rw [← hu]; simp [Array.getD_eq_getD_getElem?]
  simp [results, hr, go_sem, ht', hu', k0, k1, k2, k3, k4]
/-- The heads of the examples' programs. -/
abbrev headL : List Value := [.int .i64 1, .int .i64 0, .int .i64 0, .slice none 0 0, .slice none 0 0, .int .i64 2, .int .i64 0, .int .i64 0, .slice none 0 0, .slice none 0 0]
set_option maxRecDepth 100000 in
set_option maxHeartbeats 4000000 in
theorem headof_one (hb : Nat) (p0 p1 p2 p3 p4 p5 p6 p8 p9 : Value) (w : World) (h : BoxAt w hb headL) :
    Calls Tryz.prog 86 #[.agg #[p0, p1, p2, p3, p4, p5, p6, .slice (some ⟨hb, 0, none⟩) 2 2, p8, p9], .int .i64 1] w fun e w' => e = .returned (.tuple #[.agg #[.int .i64 1, .int .i64 0, .int .i64 0, .slice none 0 0, .slice none 0 0], .bool true]) ∧ Below w.heap.size w w' := by
  have H := hide h; clear h
  go_enter Tryz.func86, Tryz.ntmps86
  go_upto_region 1 with (fail)
  obtain ⟨W, hW⟩ : ∃ V, V = (w.alloc (.cells [p0, p1, p2, p3, p4, p5, p6, .slice (some ⟨hb, 0, none⟩) 2 2, p8, p9].toArray 48)).alloc (.cells [.int .i64 0, .int .i64 0, .int .i64 0, .slice none 0 0, .slice none 0 0].toArray 86) := ⟨_, rfl⟩
  obtain ⟨b2, b4, hz, hbW⟩ := boxes2 w _ _ _ _ W hW
  rw [← hW]
  clear hW
  have H1 := hide (H.out.below hbW)
  have h0 := H1.out.1 0 _ rfl
  have h1 := H1.out.1 1 _ rfl
  have h2 := H1.out.1 2 _ rfl
  have h3 := H1.out.1 3 _ rfl
  have h4 := H1.out.1 4 _ rfl
  have hz1 := H1.out.2.2
  have k7 := b2.1 7 _ rfl
  obtain ⟨q0, q1, q2, q3, q4, qf, qz⟩ := b4.five
  have H4 := hide b4
  clear b2 b4
  go_wp2_with fail
  go_rounds 1
  have HF := (H4.out.set5 (.int .i64 1) (.int .i64 0) (.int .i64 0) (.slice none 0 0) (.slice none 0 0)).alloc (.cells #[.int .i64 1, .int .i64 0, .int .i64 0, .slice none 0 0, .slice none 0 0] 86)
  exact bodyPost_ret (res_head rfl rfl rfl HF) rfl ⟨rfl, (by repeat (first | with_reducible exact hbW | with_reducible exact Below.refl _ _ | with_reducible refine Below.setCell ?_ (by simp <;> omega) _ | with_reducible refine below_drewN ?_ _ | with_reducible refine Below.drew ?_ | with_reducible refine Below.alloc ?_ (by simp <;> omega) _ | with_reducible refine Below.setCell ?_ (by simp <;> omega) _ | with_reducible refine Below.alloc ?_ (by simp <;> omega) _ | with_reducible refine Below.setCell ?_ (by omega) _ | with_reducible refine Below.alloc ?_ (by omega) _ | omega | (simp; done)))⟩
end Go.Proofs.YthhfakkfdohcpaaGreat
/- HeadOf, at the second head. No condition. -/
namespace Go.Proofs.YthhfakkfdohcpaaGreat
open Go.RowKit
set_option maxRecDepth 100000 in
set_option maxHeartbeats 4000000 in
theorem headof_two (hb : Nat) (p0 p1 p2 p3 p4 p5 p6 p8 p9 : Value) (w : World) (h : BoxAt w hb headL) :
    Calls Tryz.prog 86 #[.agg #[p0, p1, p2, p3, p4, p5, p6, .slice (some ⟨hb, 0, none⟩) 2 2, p8, p9], .int .i64 2] w fun e w' => e = .returned (.tuple #[.agg #[.int .i64 2, .int .i64 0, .int .i64 0, .slice none 0 0, .slice none 0 0], .bool true]) ∧ Below w.heap.size w w' := by
  have H := hide h; clear h
  go_enter Tryz.func86, Tryz.ntmps86
  go_upto_region 1 with (fail)
  obtain ⟨W, hW⟩ : ∃ V, V = (w.alloc (.cells [p0, p1, p2, p3, p4, p5, p6, .slice (some ⟨hb, 0, none⟩) 2 2, p8, p9].toArray 48)).alloc (.cells [.int .i64 0, .int .i64 0, .int .i64 0, .slice none 0 0, .slice none 0 0].toArray 86) := ⟨_, rfl⟩
  obtain ⟨b2, b4, hz, hbW⟩ := boxes2 w _ _ _ _ W hW
  rw [← hW]
  clear hW
  have H1 := hide (H.out.below hbW)
  have h0 := H1.out.1 0 _ rfl
  have h1 := H1.out.1 1 _ rfl
  have h2 := H1.out.1 2 _ rfl
  have h3 := H1.out.1 3 _ rfl
  have h4 := H1.out.1 4 _ rfl
  have h5 := H1.out.1 5 _ rfl
  have h6 := H1.out.1 6 _ rfl
  have h7 := H1.out.1 7 _ rfl
  have h8 := H1.out.1 8 _ rfl
  have h9 := H1.out.1 9 _ rfl
  have g5 : ∀ o, (W.alloc o).cell? ⟨hb, 5, none⟩ = some (.int .i64 2) := fun o => ((H1.out.alloc o).1 5 _ rfl)
  have g6 : ∀ o, (W.alloc o).cell? ⟨hb, 6, none⟩ = some (.int .i64 0) := fun o => ((H1.out.alloc o).1 6 _ rfl)
  have g7 : ∀ o, (W.alloc o).cell? ⟨hb, 7, none⟩ = some (.int .i64 0) := fun o => ((H1.out.alloc o).1 7 _ rfl)
  have g8 : ∀ o, (W.alloc o).cell? ⟨hb, 8, none⟩ = some (.slice none 0 0) := fun o => ((H1.out.alloc o).1 8 _ rfl)
  have g9 : ∀ o, (W.alloc o).cell? ⟨hb, 9, none⟩ = some (.slice none 0 0) := fun o => ((H1.out.alloc o).1 9 _ rfl)
  have hz1 := H1.out.2.2
  have k7 := b2.1 7 _ rfl
  obtain ⟨q0, q1, q2, q3, q4, qf, qz⟩ := b4.five
  have H4 := hide b4
  clear b2 b4
  go_wp2_with fail
  go_rounds 2
  have HF := ((H4.out.set5 (.int .i64 2) (.int .i64 0) (.int .i64 0) (.slice none 0 0) (.slice none 0 0)).alloc (.cells #[.int .i64 1, .int .i64 0, .int .i64 0, .slice none 0 0, .slice none 0 0] 86)).alloc (.cells #[.int .i64 2, .int .i64 0, .int .i64 0, .slice none 0 0, .slice none 0 0] 86)
  exact bodyPost_ret (res_head rfl rfl rfl HF) rfl ⟨rfl, (by repeat (first | with_reducible exact hbW | with_reducible exact Below.refl _ _ | with_reducible refine Below.setCell ?_ (by simp <;> omega) _ | with_reducible refine below_drewN ?_ _ | with_reducible refine Below.drew ?_ | with_reducible refine Below.alloc ?_ (by simp <;> omega) _ | with_reducible refine Below.setCell ?_ (by simp <;> omega) _ | with_reducible refine Below.alloc ?_ (by simp <;> omega) _ | with_reducible refine Below.setCell ?_ (by omega) _ | with_reducible refine Below.alloc ?_ (by omega) _ | omega | (simp; done)))⟩
end Go.Proofs.YthhfakkfdohcpaaGreat
