/- The summaries of the routines. No condition. -/
import Derived.Test.YthhfakkfdohcpaaGreatM20
namespace Go.Proofs.YthhfakkfdohcpaaGreat
open Go.RowKit Go.ChangeMaps Go.MapKept
/-- The cells of a summary, its routine known. -/
def sgL (id : Int) (a : Nat → Value) : List Value := [.int .i64 id, a 0, a 1, a 2, a 3, a 4, a 5, a 6, a 7, a 8, a 9]
def OneA (a : Nat → Value) : Prop := ∀ i, i < 10 → (a i).oneCell' = true
theorem sgL_one {id : Int} {a : Nat → Value} (h : OneA a) : ∀ u ∈ sgL id a, u.oneCell' = true := by
  intro u hu
  simp only [sgL, List.mem_cons, List.not_mem_nil, or_false] at hu
  rcases hu with rfl | rfl | rfl | rfl | rfl | rfl | rfl | rfl | rfl | rfl | rfl <;> first | rfl | exact h _ (by omega)
theorem sgL_of {id : Int} {l : List Value} (h : l.length = 11) (h0 : l[0]? = some (.int .i64 id)) (h1 : ∀ u ∈ l, u.oneCell' = true) : ∃ a, OneA a ∧ l = sgL id a := by
  match l, h, h0, h1 with
  | [x0, x1, x2, x3, x4, x5, x6, x7, x8, x9, x10], _, h0, h1 =>
    simp only [List.getElem?_cons_zero, Option.some.injEq] at h0
    subst h0
    refine ⟨fun i => [x1, x2, x3, x4, x5, x6, x7, x8, x9, x10].getD i (.int .i64 0), fun i hi => ?_, rfl⟩
    have : i = 0 ∨ i = 1 ∨ i = 2 ∨ i = 3 ∨ i = 4 ∨ i = 5 ∨ i = 6 ∨ i = 7 ∨ i = 8 ∨ i = 9 := by omega
    rcases this with rfl | rfl | rfl | rfl | rfl | rfl | rfl | rfl | rfl | rfl <;> exact h1 _ (by simp)
def SumsIs : Nat → List Value → Prop
  | 0, xs => xs = []
  | 1, xs => ∃ a, OneA a ∧ xs = sgL 1 a
  | _, xs => ∃ a c, OneA a ∧ OneA c ∧ xs = sgL 1 a ++ sgL 2 c
def pq : Option Pv → List Value
  | some p => pvL p
  | none => pfZ
def SumsTo (w : World) (e : Ending) (w' : World) : Prop := ∃ g c a1 a2, e = .returned (.slice (some ⟨g, 0, none⟩) 2 c) ∧ OneA a1 ∧ OneA a2 ∧ BoxAt w' g (sgL 1 a1 ++ sgL 2 a2) ∧ w.heap.size ≤ g ∧ Below w.heap.size w w'
theorem own_but2 {w w' : World} {B size n : Nat} {e : TypeId} {v : Value} {xs : List Value} {S : Nat → Prop} (h : w.ownsRow B e size v n xs) (hb : But S w w') (hS : ∀ k, v.ownBlock = some k → ¬ S k) : w'.ownsRow B e size v n xs := by
  obtain ⟨hl, h0 | ⟨g, cap, cur, rfl, hg, hh, hr⟩⟩ := h
  · exact ⟨hl, .inl h0⟩
  · exact ⟨hl, .inr ⟨g, cap, cur, rfl, hg, by rw [hb.block g (Array.getElem?_eq_some_iff.1 hh).1 (hS g rfl)]; exact hh, hr⟩⟩
theorem smZ_one0 : ∀ u ∈ smZ, u.oneCell' = true := by
  intro u hu
  simp only [smZ, List.mem_cons, List.not_mem_nil, or_false] at hu
  rcases hu with rfl | rfl | rfl | rfl | rfl | rfl | rfl | rfl | rfl | rfl | rfl <;> rfl
set_option maxRecDepth 100000 in
set_option maxHeartbeats 8000000 in
theorem sums_any (b : Nat → Nat) (ps : Value) (q1 q2 : Option Pv) (hq1 : ∀ p, q1 = some p → p.id = 1) (hq2 : ∀ p, q2 = some p → p.id = 2) (w : World) (hpf : ∀ W, Below w.heap.size w W → Calls Tryz.prog 23 #[ps, .int .i64 1] W (PfTo W (pq q1) q1.isSome) ∧ Calls Tryz.prog 23 #[ps, .int .i64 2] W (PfTo W (pq q2) q2.isSome)) (h : BoxAt w (b 4) headL) :
    Calls Tryz.prog 37 #[.agg (pgL b).toArray, ps, .slice none 0 0] w (SumsTo w) := by
  have Hpf := hide hpf; clear hpf
  have H := hide h; clear h
  go_enter Tryz.func37, Tryz.ntmps37
  simp only [pgL]
  go_upto_region 1 with (fail)
  obtain ⟨W, hW⟩ : ∃ V, V = w.alloc (.cells (pgL b).toArray 48) := ⟨_, rfl⟩
  have hb3 := BoxAt.new w (pgL b) 48
  have hbW : Below w.heap.size w (w.alloc (.cells (pgL b).toArray 48)) := (Below.refl _ w).alloc (Nat.le_refl _) _
  rw [← hW] at hb3 hbW
  simp only [pgL] at hW
  rw [← hW]
  clear hW
  have H3 := hide hb3
  have HbW := hide hbW
  have HsW := hide hb3.2.2
  replace H := hide (H.out.below hbW)
  have q7 : W.cell? ⟨w.heap.size, 7, none⟩ = some (.slice (some ⟨b 4, 0, none⟩) 2 2) := hb3.1 7 _ rfl
  clear hb3 hbW
  go_upto_block 0 with (fail)
  clear q7
  go_wp2_with fail
  go_loopw [17, 7] (fun i t wr => ∃ j : Nat, j ≤ 2 ∧ i = .int .i64 j ∧ ∃ xs, wr.ownsRow W.heap.size 59 11 t j xs ∧ SumsIs j xs ∧ Below W.heap.size W wr) (fun i _ _ => 2 - (intOf i).toNat)
  case atStart => exact ⟨0, by omega, rfl, [], own_nil _ _ _ _, rfl, Below.refl _ _⟩
  case round =>
  obtain ⟨j, hj, rfl, xs, hO, hS, hB⟩ := hrel
  by_cases hlt : j < 2
  · replace H := hide (H.out.below hB)
    replace H3 := hide (H3.out.below hB)
    have HO := hide hO
    have HB := hide hB
    have HS := hide hS
    clear hO hB hS
    rcases (show j = 0 ∨ j = 1 by omega) with rfl | rfl
    · rcases q1 with _ | p
      · go_upto_region 6 with (first
          | ((with_reducible refine wpList_load_mid ?_ 86 (.tmp 19) ?_ ((b 4)) (0) ?_ (hdL 1) _ ?_ Tryz.underlying86 ?_ ?_ ?_); (focus rfl); (focus rfl); (focus rfl); (focus exact H.out.sub 0 (hdL 1) rfl); (focus rfl); (focus kernel_rfl))
          | ((with_reducible refine wpList_store_new ?_ ?_ 86 (.tmp 9) (.tmp 20) ?_ (hdL 1) ?_ ?_ ?_ ?_ ?_ ?_); (focus rfl); (focus rfl); (focus rfl); (focus rfl); (focus rfl); (focus rfl); (focus kernel_rfl); (focus exact hd_one); intro V9 hV9 hbV9; have HV9 := hide hV9; have HbV9 := hide hbV9; clear hV9 hbV9; replace H := hide (H.out.below HbV9.out); replace H3 := hide (H3.out.below HbV9.out); replace HO := hide (own_below HO.out HbV9.out); replace HB := hide (HB.out.trans (HbV9.out.mono HB.out.size)); replace HV9 : Hid (BoxAt V9 wr.heap.size (hdL 1)) := HV9; have q9 : V9.cell? ⟨wr.heap.size, 0, none⟩ = some (.int .i64 1) := HV9.out.1 0 _ rfl)
          | (go_at_call 23; refine ((Hpf.out _ (HbW.out.trans (HB.out.mono HbW.out.size))).1).mono ?_; rintro e w1 ⟨rfl, hb1⟩; clear q9; replace H := hide (H.out.below hb1); replace H3 := hide (H3.out.below hb1); replace HV9 := hide (HV9.out.below hb1); replace HO := hide (own_below HO.out hb1); replace HB := hide (HB.out.trans (hb1.mono HB.out.size)); clear hb1)
          | ((with_reducible refine wpList_store_new ?_ ?_ 61 (.tmp 10) (.tmp 26) ?_ pfZ ?_ ?_ ?_ ?_ ?_ ?_); (focus rfl); (focus rfl); (focus rfl); (focus rfl); (focus rfl); (focus rfl); (focus kernel_rfl); (focus exact pfZ_one0); intro V10 hV10 hbV10; have HV10 := hide hV10; have HbV10 := hide hbV10; clear hV10 hbV10; replace H := hide (H.out.below HbV10.out); replace H3 := hide (H3.out.below HbV10.out); replace HV9 := hide (HV9.out.below HbV10.out); replace HO := hide (own_below HO.out HbV10.out); replace HB := hide (HB.out.trans (HbV10.out.mono HB.out.size)); have q9 : V10.cell? ⟨wr.heap.size, 0, none⟩ = some (.int .i64 1) := HV9.out.1 0 _ rfl))
        obtain ⟨g10, hg10⟩ : ∃ q, q = w1.heap.size := ⟨_, rfl⟩
        rw [← hg10] at HV10 ⊢
        clear hg10
        go_upto_region 10 with (first
          | (go_at_call 73; refine (sumfind_nil _ _).mono ?_; rintro e w2 ⟨rfl, hb2⟩; clear q9; replace H := hide (H.out.below hb2); replace H3 := hide (H3.out.below hb2); replace HV9 := hide (HV9.out.below hb2); replace HO := hide (own_below HO.out hb2); replace HB := hide (HB.out.trans (hb2.mono HB.out.size)); have Hw2 : Hid (W.heap.size ≤ w2.heap.size) := hide HB.out.size; have Hl7 : Hid (∀ k, u7.ownBlock = some k → k < w2.heap.size) := hide (fun k hk => (HO.out.lt k hk).2); clear hb2)
          | ((with_reducible refine wpList_store_new ?_ ?_ 59 (.tmp 12) (.tmp 39) ?_ smZ ?_ ?_ ?_ ?_ ?_ ?_); (focus rfl); (focus rfl); (focus rfl); (focus rfl); (focus rfl); (focus rfl); (focus kernel_rfl); (focus exact smZ_one0); intro V12 hV12 hbV12; have HV12 := hide hV12; have HbV12 := hide hbV12; clear hV12 hbV12; replace H := hide (H.out.below HbV12.out); replace H3 := hide (H3.out.below HbV12.out); replace HV9 := hide (HV9.out.below HbV12.out); replace HO := hide (own_below HO.out HbV12.out); replace HB := hide (HB.out.trans (HbV12.out.mono HB.out.size)); have q9 : V12.cell? ⟨wr.heap.size, 0, none⟩ = some (.int .i64 1) := HV9.out.1 0 _ rfl))
        obtain ⟨g12, hg12⟩ : ∃ q, q = w2.heap.size := ⟨_, rfl⟩
        have Hg12 : Hid (W.heap.size ≤ g12) := hide (by rw [hg12]; exact Hw2.out)
        rw [← hg12] at HV12 Hl7 ⊢
        clear hg12
        go_wp2_with (first
          | ((with_reducible refine wpList_load_mid ?_ 48 (.tmp 3) ?_ (w.heap.size) (0) ?_ (pgL b) _ ?_ Tryz.underlying48 ?_ ?_ ?_); (focus rfl); (focus rfl); (focus rfl); (focus exact H3.out.whole); (focus rfl); (focus kernel_rfl); simp only [pgL])
          | (go_at_call 74; refine (top_any b 1 (by omega) _ H.out).mono ?_; rintro e w3 ⟨vt, hvt, rfl, hb3⟩; have Hvt := hide hvt; replace H := hide (H.out.below hb3); replace H3 := hide (H3.out.below hb3); replace HO := hide (own_below HO.out hb3); replace HB := hide (HB.out.trans (hb3.mono HB.out.size)); replace HV12 := hide (HV12.out.below hb3); clear hb3 hvt)
          | ((with_reducible refine wpList_store_in ?_ ?_ 59 (.tmp 12) (.tmp 48) ?_ (g12) 0 smZ (tpL 1 vt) (tpL 1 vt) ?_ ?_ ?_ ?_ ?_ ?_ ?_ ?_); (focus rfl); (focus rfl); (focus rfl); (focus rfl); (focus rfl); (focus exact HV12.out); (focus (show 0 + 11 ≤ 11; decide)); (focus rfl); (focus kernel_rfl); (focus exact (tpL_one Hvt.out)); intro V13 hV13 hTV13; have HV13 := hide hV13; have HTV13 := hide hTV13; clear hV13 hTV13; replace HO := hide (own_but2 HO.out HTV13.out (fun k hk e => by have := Hl7.out k hk; omega)); replace HB := hide (HB.out.trans (HTV13.out.below HB.out.size (fun k hk => by have := Hg12.out; omega))))
          | ((with_reducible refine wpList_load_mid ?_ 59 (.tmp 12) ?_ (g12) (0) ?_ (tpL 1 vt) _ ?_ Tryz.underlying59 ?_ ?_ ?_); (focus rfl); (focus rfl); (focus rfl); (focus exact HV13.out.whole); (focus rfl); (focus kernel_rfl))
          | ((with_reducible refine wpList_buildSlice_one ?_ ?_ 76 59 11 104 elemSummary (.tmp 51) ?_ (.agg ((tpL 1 vt)).toArray) ((tpL 1 vt)) ?_ ?_ ?_ ?_ ?_); (focus rfl); (focus rfl); (focus rfl); (focus rfl); (focus rfl); (focus rfl); (focus decide); intro gb Vb hVb hgVb hbVb; have HGB := hide hVb; replace HO := hide (own_below HO.out hbVb); replace HB := hide (HB.out.trans (hbVb.mono HB.out.size)); clear hVb hgVb hbVb)
          | ((with_reducible refine wpList_append_to ?_ ?_ (.tmp 50) (.tmp 52) 76 59 11 104 elemSummary ?_ W.heap.size _ 0 xs ?_ HO.out gb 1 1 (tpL 1 vt) ?_ ?_ ?_ ?_ ?_ ?_ ?_ ?_); (focus rfl); (focus rfl); (focus rfl); (focus rfl); (focus rfl); (focus exact HGB.out); (focus rfl); (focus exact (tpL_one Hvt.out)); (focus omega); (focus omega); (focus exact HB.out.size); intro gn cn Vc hap; have hbn := hap.but.below HB.out.size (fun k hk => (HO.out.lt k hk).1); have hOn := hap.own; clear HO; have HO := hide hOn; replace HB := hide (HB.out.trans hbn); clear hap hbn hOn))
        obtain ⟨a, ha, hl⟩ := sgL_of (id := 1) (l := (tpL 1 vt)) rfl rfl (tpL_one Hvt.out)
        rw [hl] at HO
        go_roundw
        case rel => exact ⟨1, by omega, rfl, _, HO.out, by have h0 : xs = [] := HS.out; rw [h0]; exact ⟨a, ha, rfl⟩, HB.out⟩
        case measure => simp [intOf]
      · go_upto_region 6 with (first
          | ((with_reducible refine wpList_load_mid ?_ 86 (.tmp 19) ?_ ((b 4)) (0) ?_ (hdL 1) _ ?_ Tryz.underlying86 ?_ ?_ ?_); (focus rfl); (focus rfl); (focus rfl); (focus exact H.out.sub 0 (hdL 1) rfl); (focus rfl); (focus kernel_rfl))
          | ((with_reducible refine wpList_store_new ?_ ?_ 86 (.tmp 9) (.tmp 20) ?_ (hdL 1) ?_ ?_ ?_ ?_ ?_ ?_); (focus rfl); (focus rfl); (focus rfl); (focus rfl); (focus rfl); (focus rfl); (focus kernel_rfl); (focus exact hd_one); intro V9 hV9 hbV9; have HV9 := hide hV9; have HbV9 := hide hbV9; clear hV9 hbV9; replace H := hide (H.out.below HbV9.out); replace H3 := hide (H3.out.below HbV9.out); replace HO := hide (own_below HO.out HbV9.out); replace HB := hide (HB.out.trans (HbV9.out.mono HB.out.size)); replace HV9 : Hid (BoxAt V9 wr.heap.size (hdL 1)) := HV9; have q9 : V9.cell? ⟨wr.heap.size, 0, none⟩ = some (.int .i64 1) := HV9.out.1 0 _ rfl)
          | (go_at_call 23; refine ((Hpf.out _ (HbW.out.trans (HB.out.mono HbW.out.size))).1).mono ?_; rintro e w1 ⟨rfl, hb1⟩; clear q9; replace H := hide (H.out.below hb1); replace H3 := hide (H3.out.below hb1); replace HV9 := hide (HV9.out.below hb1); replace HO := hide (own_below HO.out hb1); replace HB := hide (HB.out.trans (hb1.mono HB.out.size)); clear hb1)
          | ((with_reducible refine wpList_store_new ?_ ?_ 61 (.tmp 10) (.tmp 26) ?_ (pvL p) ?_ ?_ ?_ ?_ ?_ ?_); (focus rfl); (focus rfl); (focus rfl); (focus rfl); (focus rfl); (focus rfl); (focus kernel_rfl); (focus exact (pvL_one p)); intro V10 hV10 hbV10; have HV10 := hide hV10; have HbV10 := hide hbV10; clear hV10 hbV10; replace H := hide (H.out.below HbV10.out); replace H3 := hide (H3.out.below HbV10.out); replace HV9 := hide (HV9.out.below HbV10.out); replace HO := hide (own_below HO.out HbV10.out); replace HB := hide (HB.out.trans (HbV10.out.mono HB.out.size)); have q9 : V10.cell? ⟨wr.heap.size, 0, none⟩ = some (.int .i64 1) := HV9.out.1 0 _ rfl))
        obtain ⟨g10, hg10⟩ : ∃ q, q = w1.heap.size := ⟨_, rfl⟩
        rw [← hg10] at HV10 ⊢
        clear hg10
        go_wp2_with (first
          | ((with_reducible refine wpList_load_mid ?_ 59 (.tmp 30) ?_ (g10) (2) ?_ (smL p.id p.lk p.lo (.slice (some ⟨p.gs, 0, none⟩) 1 p.cq) 4) _ ?_ Tryz.underlying59 ?_ ?_ ?_); (focus rfl); (focus rfl); (focus rfl); (focus exact HV10.out.sub 2 (smL p.id p.lk p.lo (.slice (some ⟨p.gs, 0, none⟩) 1 p.cq) 4) rfl); (focus rfl); (focus kernel_rfl))
          | ((with_reducible refine wpList_buildSlice_one ?_ ?_ 76 59 11 104 elemSummary (.tmp 31) ?_ (.agg ((smL p.id p.lk p.lo (.slice (some ⟨p.gs, 0, none⟩) 1 p.cq) 4)).toArray) ((smL p.id p.lk p.lo (.slice (some ⟨p.gs, 0, none⟩) 1 p.cq) 4)) ?_ ?_ ?_ ?_ ?_); (focus rfl); (focus rfl); (focus rfl); (focus rfl); (focus rfl); (focus rfl); (focus decide); intro gb Vb hVb hgVb hbVb; have HGB := hide hVb; replace H := hide (H.out.below hbVb); replace H3 := hide (H3.out.below hbVb); replace HO := hide (own_below HO.out hbVb); replace HB := hide (HB.out.trans (hbVb.mono HB.out.size)); clear hVb hgVb hbVb)
          | ((with_reducible refine wpList_append_to ?_ ?_ (.tmp 29) (.tmp 32) 76 59 11 104 elemSummary ?_ W.heap.size _ 0 xs ?_ HO.out gb 1 1 (smL p.id p.lk p.lo (.slice (some ⟨p.gs, 0, none⟩) 1 p.cq) 4) ?_ ?_ ?_ ?_ ?_ ?_ ?_ ?_); (focus rfl); (focus rfl); (focus rfl); (focus rfl); (focus rfl); (focus exact HGB.out); (focus rfl); (focus exact smL_one); (focus omega); (focus omega); (focus exact HB.out.size); intro gn cn Vc hap; have hbn := hap.but.below HB.out.size (fun k hk => (HO.out.lt k hk).1); have hOn := hap.own; clear HO; have HO := hide hOn; replace HB := hide (HB.out.trans hbn); clear hap hbn hOn))
        obtain ⟨a, ha, hl⟩ := sgL_of (id := 1) (l := (smL p.id p.lk p.lo (.slice (some ⟨p.gs, 0, none⟩) 1 p.cq) 4)) rfl (by rw [show ((smL p.id p.lk p.lo (.slice (some ⟨p.gs, 0, none⟩) 1 p.cq) 4))[0]? = some (.int .i64 p.id) from rfl, hq1 p rfl]) smL_one
        rw [hl] at HO
        go_roundw
        case rel => exact ⟨1, by omega, rfl, _, HO.out, by have h0 : xs = [] := HS.out; rw [h0]; exact ⟨a, ha, rfl⟩, HB.out⟩
        case measure => simp [intOf]
    · rcases q2 with _ | p
      · go_upto_region 6 with (first
          | ((with_reducible refine wpList_load_mid ?_ 86 (.tmp 19) ?_ ((b 4)) (5) ?_ (hdL 2) _ ?_ Tryz.underlying86 ?_ ?_ ?_); (focus rfl); (focus rfl); (focus rfl); (focus exact H.out.sub 5 (hdL 2) rfl); (focus rfl); (focus kernel_rfl))
          | ((with_reducible refine wpList_store_new ?_ ?_ 86 (.tmp 9) (.tmp 20) ?_ (hdL 2) ?_ ?_ ?_ ?_ ?_ ?_); (focus rfl); (focus rfl); (focus rfl); (focus rfl); (focus rfl); (focus rfl); (focus kernel_rfl); (focus exact hd_one); intro V9 hV9 hbV9; have HV9 := hide hV9; have HbV9 := hide hbV9; clear hV9 hbV9; replace H := hide (H.out.below HbV9.out); replace H3 := hide (H3.out.below HbV9.out); replace HO := hide (own_below HO.out HbV9.out); replace HB := hide (HB.out.trans (HbV9.out.mono HB.out.size)); replace HV9 : Hid (BoxAt V9 wr.heap.size (hdL 2)) := HV9; have q9 : V9.cell? ⟨wr.heap.size, 0, none⟩ = some (.int .i64 2) := HV9.out.1 0 _ rfl)
          | (go_at_call 23; refine ((Hpf.out _ (HbW.out.trans (HB.out.mono HbW.out.size))).2).mono ?_; rintro e w1 ⟨rfl, hb1⟩; clear q9; replace H := hide (H.out.below hb1); replace H3 := hide (H3.out.below hb1); replace HV9 := hide (HV9.out.below hb1); replace HO := hide (own_below HO.out hb1); replace HB := hide (HB.out.trans (hb1.mono HB.out.size)); clear hb1)
          | ((with_reducible refine wpList_store_new ?_ ?_ 61 (.tmp 10) (.tmp 26) ?_ pfZ ?_ ?_ ?_ ?_ ?_ ?_); (focus rfl); (focus rfl); (focus rfl); (focus rfl); (focus rfl); (focus rfl); (focus kernel_rfl); (focus exact pfZ_one0); intro V10 hV10 hbV10; have HV10 := hide hV10; have HbV10 := hide hbV10; clear hV10 hbV10; replace H := hide (H.out.below HbV10.out); replace H3 := hide (H3.out.below HbV10.out); replace HV9 := hide (HV9.out.below HbV10.out); replace HO := hide (own_below HO.out HbV10.out); replace HB := hide (HB.out.trans (HbV10.out.mono HB.out.size)); have q9 : V10.cell? ⟨wr.heap.size, 0, none⟩ = some (.int .i64 2) := HV9.out.1 0 _ rfl))
        obtain ⟨g10, hg10⟩ : ∃ q, q = w1.heap.size := ⟨_, rfl⟩
        rw [← hg10] at HV10 ⊢
        clear hg10
        go_upto_region 10 with (first
          | (go_at_call 73; refine (sumfind_nil _ _).mono ?_; rintro e w2 ⟨rfl, hb2⟩; clear q9; replace H := hide (H.out.below hb2); replace H3 := hide (H3.out.below hb2); replace HV9 := hide (HV9.out.below hb2); replace HO := hide (own_below HO.out hb2); replace HB := hide (HB.out.trans (hb2.mono HB.out.size)); have Hw2 : Hid (W.heap.size ≤ w2.heap.size) := hide HB.out.size; have Hl7 : Hid (∀ k, u7.ownBlock = some k → k < w2.heap.size) := hide (fun k hk => (HO.out.lt k hk).2); clear hb2)
          | ((with_reducible refine wpList_store_new ?_ ?_ 59 (.tmp 12) (.tmp 39) ?_ smZ ?_ ?_ ?_ ?_ ?_ ?_); (focus rfl); (focus rfl); (focus rfl); (focus rfl); (focus rfl); (focus rfl); (focus kernel_rfl); (focus exact smZ_one0); intro V12 hV12 hbV12; have HV12 := hide hV12; have HbV12 := hide hbV12; clear hV12 hbV12; replace H := hide (H.out.below HbV12.out); replace H3 := hide (H3.out.below HbV12.out); replace HV9 := hide (HV9.out.below HbV12.out); replace HO := hide (own_below HO.out HbV12.out); replace HB := hide (HB.out.trans (HbV12.out.mono HB.out.size)); have q9 : V12.cell? ⟨wr.heap.size, 0, none⟩ = some (.int .i64 2) := HV9.out.1 0 _ rfl))
        obtain ⟨g12, hg12⟩ : ∃ q, q = w2.heap.size := ⟨_, rfl⟩
        have Hg12 : Hid (W.heap.size ≤ g12) := hide (by rw [hg12]; exact Hw2.out)
        rw [← hg12] at HV12 Hl7 ⊢
        clear hg12
        go_wp2_with (first
          | ((with_reducible refine wpList_load_mid ?_ 48 (.tmp 3) ?_ (w.heap.size) (0) ?_ (pgL b) _ ?_ Tryz.underlying48 ?_ ?_ ?_); (focus rfl); (focus rfl); (focus rfl); (focus exact H3.out.whole); (focus rfl); (focus kernel_rfl); simp only [pgL])
          | (go_at_call 74; refine (top_any b 2 (by omega) _ H.out).mono ?_; rintro e w3 ⟨vt, hvt, rfl, hb3⟩; have Hvt := hide hvt; replace H := hide (H.out.below hb3); replace H3 := hide (H3.out.below hb3); replace HO := hide (own_below HO.out hb3); replace HB := hide (HB.out.trans (hb3.mono HB.out.size)); replace HV12 := hide (HV12.out.below hb3); clear hb3 hvt)
          | ((with_reducible refine wpList_store_in ?_ ?_ 59 (.tmp 12) (.tmp 48) ?_ (g12) 0 smZ (tpL 2 vt) (tpL 2 vt) ?_ ?_ ?_ ?_ ?_ ?_ ?_ ?_); (focus rfl); (focus rfl); (focus rfl); (focus rfl); (focus rfl); (focus exact HV12.out); (focus (show 0 + 11 ≤ 11; decide)); (focus rfl); (focus kernel_rfl); (focus exact (tpL_one Hvt.out)); intro V13 hV13 hTV13; have HV13 := hide hV13; have HTV13 := hide hTV13; clear hV13 hTV13; replace HO := hide (own_but2 HO.out HTV13.out (fun k hk e => by have := Hl7.out k hk; omega)); replace HB := hide (HB.out.trans (HTV13.out.below HB.out.size (fun k hk => by have := Hg12.out; omega))))
          | ((with_reducible refine wpList_load_mid ?_ 59 (.tmp 12) ?_ (g12) (0) ?_ (tpL 2 vt) _ ?_ Tryz.underlying59 ?_ ?_ ?_); (focus rfl); (focus rfl); (focus rfl); (focus exact HV13.out.whole); (focus rfl); (focus kernel_rfl))
          | ((with_reducible refine wpList_buildSlice_one ?_ ?_ 76 59 11 104 elemSummary (.tmp 51) ?_ (.agg ((tpL 2 vt)).toArray) ((tpL 2 vt)) ?_ ?_ ?_ ?_ ?_); (focus rfl); (focus rfl); (focus rfl); (focus rfl); (focus rfl); (focus rfl); (focus decide); intro gb Vb hVb hgVb hbVb; have HGB := hide hVb; replace HO := hide (own_below HO.out hbVb); replace HB := hide (HB.out.trans (hbVb.mono HB.out.size)); clear hVb hgVb hbVb)
          | ((with_reducible refine wpList_append_to ?_ ?_ (.tmp 50) (.tmp 52) 76 59 11 104 elemSummary ?_ W.heap.size _ 1 xs ?_ HO.out gb 1 1 (tpL 2 vt) ?_ ?_ ?_ ?_ ?_ ?_ ?_ ?_); (focus rfl); (focus rfl); (focus rfl); (focus rfl); (focus rfl); (focus exact HGB.out); (focus rfl); (focus exact (tpL_one Hvt.out)); (focus omega); (focus omega); (focus exact HB.out.size); intro gn cn Vc hap; have hbn := hap.but.below HB.out.size (fun k hk => (HO.out.lt k hk).1); have hOn := hap.own; clear HO; have HO := hide hOn; replace HB := hide (HB.out.trans hbn); clear hap hbn hOn))
        obtain ⟨a, ha, hl⟩ := sgL_of (id := 2) (l := (tpL 2 vt)) rfl rfl (tpL_one Hvt.out)
        rw [hl] at HO
        go_roundw
        case rel =>
          obtain ⟨a0, ha0, h0⟩ := HS.out
          exact ⟨2, by omega, rfl, _, HO.out, by rw [h0]; exact ⟨a0, a, ha0, ha, rfl⟩, HB.out⟩
        case measure => simp [intOf]
      · go_upto_region 6 with (first
          | ((with_reducible refine wpList_load_mid ?_ 86 (.tmp 19) ?_ ((b 4)) (5) ?_ (hdL 2) _ ?_ Tryz.underlying86 ?_ ?_ ?_); (focus rfl); (focus rfl); (focus rfl); (focus exact H.out.sub 5 (hdL 2) rfl); (focus rfl); (focus kernel_rfl))
          | ((with_reducible refine wpList_store_new ?_ ?_ 86 (.tmp 9) (.tmp 20) ?_ (hdL 2) ?_ ?_ ?_ ?_ ?_ ?_); (focus rfl); (focus rfl); (focus rfl); (focus rfl); (focus rfl); (focus rfl); (focus kernel_rfl); (focus exact hd_one); intro V9 hV9 hbV9; have HV9 := hide hV9; have HbV9 := hide hbV9; clear hV9 hbV9; replace H := hide (H.out.below HbV9.out); replace H3 := hide (H3.out.below HbV9.out); replace HO := hide (own_below HO.out HbV9.out); replace HB := hide (HB.out.trans (HbV9.out.mono HB.out.size)); replace HV9 : Hid (BoxAt V9 wr.heap.size (hdL 2)) := HV9; have q9 : V9.cell? ⟨wr.heap.size, 0, none⟩ = some (.int .i64 2) := HV9.out.1 0 _ rfl)
          | (go_at_call 23; refine ((Hpf.out _ (HbW.out.trans (HB.out.mono HbW.out.size))).2).mono ?_; rintro e w1 ⟨rfl, hb1⟩; clear q9; replace H := hide (H.out.below hb1); replace H3 := hide (H3.out.below hb1); replace HV9 := hide (HV9.out.below hb1); replace HO := hide (own_below HO.out hb1); replace HB := hide (HB.out.trans (hb1.mono HB.out.size)); clear hb1)
          | ((with_reducible refine wpList_store_new ?_ ?_ 61 (.tmp 10) (.tmp 26) ?_ (pvL p) ?_ ?_ ?_ ?_ ?_ ?_); (focus rfl); (focus rfl); (focus rfl); (focus rfl); (focus rfl); (focus rfl); (focus kernel_rfl); (focus exact (pvL_one p)); intro V10 hV10 hbV10; have HV10 := hide hV10; have HbV10 := hide hbV10; clear hV10 hbV10; replace H := hide (H.out.below HbV10.out); replace H3 := hide (H3.out.below HbV10.out); replace HV9 := hide (HV9.out.below HbV10.out); replace HO := hide (own_below HO.out HbV10.out); replace HB := hide (HB.out.trans (HbV10.out.mono HB.out.size)); have q9 : V10.cell? ⟨wr.heap.size, 0, none⟩ = some (.int .i64 2) := HV9.out.1 0 _ rfl))
        obtain ⟨g10, hg10⟩ : ∃ q, q = w1.heap.size := ⟨_, rfl⟩
        rw [← hg10] at HV10 ⊢
        clear hg10
        go_wp2_with (first
          | ((with_reducible refine wpList_load_mid ?_ 59 (.tmp 30) ?_ (g10) (2) ?_ (smL p.id p.lk p.lo (.slice (some ⟨p.gs, 0, none⟩) 1 p.cq) 4) _ ?_ Tryz.underlying59 ?_ ?_ ?_); (focus rfl); (focus rfl); (focus rfl); (focus exact HV10.out.sub 2 (smL p.id p.lk p.lo (.slice (some ⟨p.gs, 0, none⟩) 1 p.cq) 4) rfl); (focus rfl); (focus kernel_rfl))
          | ((with_reducible refine wpList_buildSlice_one ?_ ?_ 76 59 11 104 elemSummary (.tmp 31) ?_ (.agg ((smL p.id p.lk p.lo (.slice (some ⟨p.gs, 0, none⟩) 1 p.cq) 4)).toArray) ((smL p.id p.lk p.lo (.slice (some ⟨p.gs, 0, none⟩) 1 p.cq) 4)) ?_ ?_ ?_ ?_ ?_); (focus rfl); (focus rfl); (focus rfl); (focus rfl); (focus rfl); (focus rfl); (focus decide); intro gb Vb hVb hgVb hbVb; have HGB := hide hVb; replace H := hide (H.out.below hbVb); replace H3 := hide (H3.out.below hbVb); replace HO := hide (own_below HO.out hbVb); replace HB := hide (HB.out.trans (hbVb.mono HB.out.size)); clear hVb hgVb hbVb)
          | ((with_reducible refine wpList_append_to ?_ ?_ (.tmp 29) (.tmp 32) 76 59 11 104 elemSummary ?_ W.heap.size _ 1 xs ?_ HO.out gb 1 1 (smL p.id p.lk p.lo (.slice (some ⟨p.gs, 0, none⟩) 1 p.cq) 4) ?_ ?_ ?_ ?_ ?_ ?_ ?_ ?_); (focus rfl); (focus rfl); (focus rfl); (focus rfl); (focus rfl); (focus exact HGB.out); (focus rfl); (focus exact smL_one); (focus omega); (focus omega); (focus exact HB.out.size); intro gn cn Vc hap; have hbn := hap.but.below HB.out.size (fun k hk => (HO.out.lt k hk).1); have hOn := hap.own; clear HO; have HO := hide hOn; replace HB := hide (HB.out.trans hbn); clear hap hbn hOn))
        obtain ⟨a, ha, hl⟩ := sgL_of (id := 2) (l := (smL p.id p.lk p.lo (.slice (some ⟨p.gs, 0, none⟩) 1 p.cq) 4)) rfl (by rw [show ((smL p.id p.lk p.lo (.slice (some ⟨p.gs, 0, none⟩) 1 p.cq) 4))[0]? = some (.int .i64 p.id) from rfl, hq2 p rfl]) smL_one
        rw [hl] at HO
        go_roundw
        case rel =>
          obtain ⟨a0, ha0, h0⟩ := HS.out
          exact ⟨2, by omega, rfl, _, HO.out, by rw [h0]; exact ⟨a0, a, ha0, ha, rfl⟩, HB.out⟩
        case measure => simp [intOf]
  · obtain rfl : j = 2 := by omega
    obtain ⟨a, c, ha, hc, rfl⟩ := hS
    obtain ⟨g, cap, rfl, hg, hbx, -⟩ := own_box hO (by omega)
    go_wp2_with fail
    go_ret
    exact ⟨g, cap, a, c, rfl, ha, hc, hbx, by have := HbW.out.size; omega, HbW.out.trans (hB.mono HbW.out.size)⟩
end Go.Proofs.YthhfakkfdohcpaaGreat
/- slices.Insert of one proof at the end. No condition. -/
namespace Go.Proofs.YthhfakkfdohcpaaGreat
open Go.RowKit Go.ChangeMaps Go.MapKept
def InsTo (w : World) (B : Nat) (v : Value) (n : Nat) (xs : List Value) (e : Ending) (w' : World) : Prop :=
  ∃ g c, e = .returned (.slice (some ⟨g, 0, none⟩) n c) ∧ Apd w w' B 61 16 v (.slice (some ⟨g, 0, none⟩) n c) n xs g c
set_option maxRecDepth 100000 in
set_option maxHeartbeats 8000000 in
theorem insert_first (B : Nat) (p : Pv) (gb : Nat) (w : World) (hB : B ≤ w.heap.size) (h : BoxAt w gb (pvL p)) :
    Calls Tryz.prog 40 #[.slice none 0 0, .int .i64 0, .slice (some ⟨gb, 0, none⟩) 1 1] w (InsTo w B (.slice none 0 0) 1 (pvL p)) := by
  have H := hide h; clear h
  go_enter Tryz.func40, Tryz.ntmps40
  go_wp2_with (first
    | ((with_reducible refine wpList_append_to ?_ ?_ (.tmp 23) (.tmp 24) 32 61 16 208 elemProof ?_ B (.slice none 0 0) 0 [] ?_ (own_nil _ _ _ _) gb 1 1 (pvL p) ?_ ?_ ?_ ?_ ?_ ?_ ?_ ?_); (focus rfl); (focus rfl); (focus rfl); (focus rfl); (focus rfl); (focus exact H.out); (focus rfl); (focus exact pvL_one p); (focus omega); (focus omega); (focus exact hB); intro gn cn Vc hap; have Hap := hide hap; clear hap))
  go_ret
  exact ⟨_, _, rfl, Hap.out⟩
set_option maxRecDepth 100000 in
set_option maxHeartbeats 8000000 in
theorem insert_second1 (B : Nat) (p1 p : Pv) (g1 : Nat) (gb : Nat) (w : World) (hB : B ≤ w.heap.size) (ho : w.ownsRow B 61 16 (.slice (some ⟨g1, 0, none⟩) 1 1) 1 (pvL p1)) (h : BoxAt w gb (pvL p)) :
    Calls Tryz.prog 40 #[.slice (some ⟨g1, 0, none⟩) 1 1, .int .i64 1, .slice (some ⟨gb, 0, none⟩) 1 1] w (InsTo w B (.slice (some ⟨g1, 0, none⟩) 1 1) 2 (pvL p1 ++ pvL p)) := by
  have H := hide h; clear h
  have HO := hide ho; clear ho
  go_enter Tryz.func40, Tryz.ntmps40
  go_wp2_with (first
    | ((with_reducible refine wpList_append_to ?_ ?_ (.tmp 23) (.tmp 24) 32 61 16 208 elemProof ?_ B (.slice (some ⟨g1, 0, none⟩) 1 1) 1 (pvL p1) ?_ HO.out gb 1 1 (pvL p) ?_ ?_ ?_ ?_ ?_ ?_ ?_ ?_); (focus rfl); (focus rfl); (focus rfl); (focus rfl); (focus rfl); (focus exact H.out); (focus rfl); (focus exact pvL_one p); (focus omega); (focus omega); (focus exact hB); intro gn cn Vc hap; have Hap := hide hap; clear hap))
  go_ret
  exact ⟨_, _, rfl, Hap.out⟩
set_option maxRecDepth 100000 in
set_option maxHeartbeats 8000000 in
theorem insert_second (B : Nat) (p1 p : Pv) (g1 c1 : Nat) (gb : Nat) (w : World) (hB : B ≤ w.heap.size) (ho : w.ownsRow B 61 16 (.slice (some ⟨g1, 0, none⟩) 1 c1) 1 (pvL p1)) (hc : 1 ≤ c1) (h : BoxAt w gb (pvL p)) :
    Calls Tryz.prog 40 #[.slice (some ⟨g1, 0, none⟩) 1 c1, .int .i64 1, .slice (some ⟨gb, 0, none⟩) 1 1] w (InsTo w B (.slice (some ⟨g1, 0, none⟩) 1 c1) 2 (pvL p1 ++ pvL p)) := by
  have H := hide h; clear h
  have HO := hide ho; clear ho
  rcases Nat.eq_or_lt_of_le hc with hc1 | hc1
  · subst hc1
    exact insert_second1 B p1 p g1 gb w hB HO.out H.out
  have hz : ¬ ((c1 : Int) - 1 = 0) := by omega
  have hz' : ¬ (c1 - 1 = 0) := by omega
  have hz2 : ¬ (1 = c1) := by omega
  have hz3 : ¬ (c1 = 1) := by omega
  go_enter Tryz.func40, Tryz.ntmps40
  go_wp2_with (first
    | ((with_reducible refine wpList_append_to ?_ ?_ (.tmp 23) (.tmp 24) 32 61 16 208 elemProof ?_ B (.slice (some ⟨g1, 0, none⟩) 1 c1) 1 (pvL p1) ?_ HO.out gb 1 1 (pvL p) ?_ ?_ ?_ ?_ ?_ ?_ ?_ ?_); (focus rfl); (focus rfl); (focus rfl); (focus rfl); (focus rfl); (focus exact H.out); (focus rfl); (focus exact pvL_one p); (focus omega); (focus omega); (focus exact hB); intro gn cn Vc hap; have Hap := hide hap; clear hap))
  go_ret
  exact ⟨_, _, rfl, Hap.out⟩
end Go.Proofs.YthhfakkfdohcpaaGreat
/- whole.Right at the settings of the examples. No condition. -/
namespace Go.Proofs.YthhfakkfdohcpaaGreat
open Go.RowKit Go.ChangeMaps Go.MapKept
theorem index_rule_nil (f : Value) (w : World) : Calls Tryz.prog 91 #[.slice none 0 0, f] w fun e w' => e = .returned (.int .i64 (-1)) ∧ w = w' := by
  go_enter Tryz.func91, Tryz.ntmps91
  go_wp2
  go_rounds 1
  go_ret
  exact ⟨rfl, rfl⟩
theorem contains_rule_nil (f : Value) (w : World) : Calls Tryz.prog 60 #[.slice none 0 0, f] w fun e w' => e = .returned (.bool false) ∧ w = w' := by
  go_enter Tryz.func60, Tryz.ntmps60
  go_wp2_with (go_at_call 91; refine (index_rule_nil _ _).mono ?_; rintro e w1 ⟨rfl, rfl⟩)
  go_ret
  exact ⟨rfl, rfl⟩
theorem contains_sum_nil (f : Value) (w : World) : Calls Tryz.prog 61 #[.slice none 0 0, f] w fun e w' => e = .returned (.bool false) ∧ w = w' := by
  go_enter Tryz.func61, Tryz.ntmps61
  go_wp2_with (go_at_call 92; refine (index_sum_nil _ _).mono ?_; rintro e w1 ⟨rfl, rfl⟩)
  go_ret
  exact ⟨rfl, rfl⟩
set_option maxRecDepth 100000 in
set_option maxHeartbeats 2000000 in
theorem different_nil (f : Value) (w : World) : Calls Tryz.prog 62 #[.slice none 0 0, f] w fun e w' => e = .returned (.bool true) ∧ Below w.heap.size w w' := by
  have hk0 : ∀ W, (Instr.makeMap 92 none).run Tryz.prog W = .ok (.map (some W.heap.size)) (W.alloc (.map #[] 0)) := fun _ => by kernel_rfl
  go_enter Tryz.func62, Tryz.ntmps62
  go_wp2
  have hm := MapAt.new w
  have hbW : Below w.heap.size w (w.alloc (.map #[] 0)) := (Below.refl _ w).alloc (Nat.le_refl _) _
  obtain ⟨W, hW⟩ : ∃ V, V = w.alloc (.map #[] 0) := ⟨_, rfl⟩
  rw [← hW] at hm hbW ⊢
  clear hW
  have hb : W.heap[w.heap.size]? = some (.map #[] 0) := hm
  have hl : ∀ ty, (Builtin.len_ #[92] ty #[.map (some w.heap.size)]).run Tryz.prog W = .ok (.int .i64 0) W := fun ty => run_len_map _ _ _ _ #[] 0 (by kernel_rfl) hb
  refine wp_loop_rounds 1 ?_
  rw [rounds_succ]
  go_wp2_with fail
  go_ret
  exact ⟨rfl, hbW⟩
set_option maxRecDepth 100000 in
set_option maxHeartbeats 4000000 in
theorem right_any (b : Nat → Nat) (lv : Int) (hl : lv = 0 ∨ lv = 2) (w : World) : Calls Tryz.prog 34 #[.agg (pgL b).toArray, .agg #[.int .i64 lv, .slice none 0 0], .slice none 0 0] w fun e w' => e = .returned (.int .i64 0) ∧ Below w.heap.size w w' := by
  go_enter Tryz.func34, Tryz.ntmps34
  simp only [pgL]
  go_upto_region 1 with (fail)
  obtain ⟨W, hW⟩ : ∃ V, V = (w.alloc (.cells (pgL b).toArray 48)).alloc (.cells [.int .i64 lv, .slice none 0 0].toArray 52) := ⟨_, rfl⟩
  have hb2 := boxes2 w _ _ _ _ W hW
  have hW' := hW
  simp only [pgL] at hW'
  rw [← hW']
  clear hW hW'
  obtain ⟨b3, b4, hz, hbW⟩ := hb2
  go_upto_region 4 with (fail)
  have hbX : Below w.heap.size w (W.alloc (.cells #[.int .i64 0] 3)) := hbW.alloc (by omega) _
  have c4 : BoxAt (W.alloc (.cells #[.int .i64 0] 3)) (w.heap.size + 1) [.int .i64 lv, .slice none 0 0] := b4.alloc _
  obtain ⟨X, hX⟩ : ∃ V, V = W.alloc (.cells #[.int .i64 0] 3) := ⟨_, rfl⟩
  rw [← hX] at hbX c4 ⊢
  clear hX b3 b4 hz hbW
  have q0 : X.cell? ⟨w.heap.size + 1, 0, none⟩ = some (.int .i64 lv) := c4.1 0 _ rfl
  have q1 : X.cell? ⟨w.heap.size + 1, 1, none⟩ = some (.slice none 0 0) := c4.1 1 _ rfl
  rcases hl with rfl | rfl
  all_goals
    go_wp2_with (first
      | (go_at_call 60; refine (contains_rule_nil _ _).mono ?_; rintro e w1 ⟨rfl, hw⟩; subst hw)
      | (go_at_call 61; refine (contains_sum_nil _ _).mono ?_; rintro e w1 ⟨rfl, hw⟩; subst hw)
      | (go_at_call 62; refine (different_nil _ _).mono ?_; rintro e w1 ⟨rfl, hw⟩))
    go_ret
    exact ⟨rfl, hbX.trans (hw.mono hbX.size)⟩
set_option maxRecDepth 100000 in
set_option maxHeartbeats 4000000 in
theorem right_not (b : Nat → Nat) (w : World) : Calls Tryz.prog 34 #[.agg (pgL b).toArray, .agg #[.int .i64 3, .slice none 0 0], .slice none 0 0] w fun e w' => e = .returned (.int .i64 1) ∧ Below w.heap.size w w' := by
  go_enter Tryz.func34, Tryz.ntmps34
  simp only [pgL]
  go_upto_region 1 with (fail)
  obtain ⟨W, hW⟩ : ∃ V, V = (w.alloc (.cells (pgL b).toArray 48)).alloc (.cells [.int .i64 3, .slice none 0 0].toArray 52) := ⟨_, rfl⟩
  have hb2 := boxes2 w _ _ _ _ W hW
  have hW' := hW
  simp only [pgL] at hW'
  rw [← hW']
  clear hW hW'
  obtain ⟨b3, b4, hz, hbW⟩ := hb2
  go_upto_region 4 with (fail)
  have hbX : Below w.heap.size w (W.alloc (.cells #[.int .i64 0] 3)) := hbW.alloc (by omega) _
  have c4 : BoxAt (W.alloc (.cells #[.int .i64 0] 3)) (w.heap.size + 1) [.int .i64 3, .slice none 0 0] := b4.alloc _
  obtain ⟨X, hX⟩ : ∃ V, V = W.alloc (.cells #[.int .i64 0] 3) := ⟨_, rfl⟩
  rw [← hX] at hbX c4 ⊢
  clear hX b3 b4 hz hbW
  have q0 : X.cell? ⟨w.heap.size + 1, 0, none⟩ = some (.int .i64 3) := c4.1 0 _ rfl
  go_wp2_with fail
  go_ret
  exact ⟨rfl, hbX⟩
end Go.Proofs.YthhfakkfdohcpaaGreat
