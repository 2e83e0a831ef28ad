/- whole.Findings at the proofs of the examples. No condition. -/
import Derived.Test.YthhfakkfdohcpaaGreatM28
import Derived.Test.YthhfakkfdohcpaaGreatM29
namespace Go.Proofs.YthhfakkfdohcpaaGreat
open Go.RowKit Go.ChangeMaps Go.MapKept
theorem tsorted_two {f1 f2 : Tri} {rs : List Tri} (hp : rs.Perm [f1, f2]) (hs : Tsorted rs) (hlt : Tlt f1 f2) : rs = [f1, f2] := by
  have hl := hp.length_eq
  match rs, hl with
  | [x, y], _ =>
    have hx : x ∈ [f1, f2] := hp.mem_iff.1 (by simp)
    have hy : y ∈ [f1, f2] := hp.mem_iff.1 (by simp)
    have m1 : f1 ∈ [x, y] := hp.mem_iff.2 (by simp)
    have m2 : f2 ∈ [x, y] := hp.mem_iff.2 (by simp)
    simp only [List.mem_cons, List.not_mem_nil, or_false] at hx hy m1 m2
    unfold Tsorted at hs
    rw [List.pairwise_cons] at hs
    have h1 := hs.1 y (by simp)
    rcases hx with rfl | rfl
    · rcases m2 with rfl | rfl
      · exact (tlt_irrefl hlt).elim
      · rfl
    · rcases m1 with rfl | rfl
      · exact (tlt_irrefl hlt).elim
      · exact absurd hlt h1
theorem graph_none (W : World) (B g : Nat) (h : MapAt W g []) (hB : B ≤ g) : GraphAt W B g [] :=
  { map := h, set := by simp, off := by simp, nd := by simp, keys := by simp, base := hB, bases := by simp }
theorem prat_prs {W : World} {p : Pv} {q : Tri} (h : PrAt W p q) : PrsAt W p.gp [q] := h
theorem PrAt.below {W W' : World} {p : Pv} {q : Tri} (h : PrAt W p q) (hb : Below W.heap.size W W') : PrAt W' p q := BoxAt.below h hb
theorem check_find (i s k : Int) : ∀ w, (Instr.checkKey false 10000 54 (.agg #[.int .i64 i, .int .i64 s, .int .i64 k])).run Tryz.prog w = .ok () w := fun w => by kernel_rfl
theorem noKey_find : NoKey 54 (.agg #[.int .i64 2, .int .i64 21, .int .i64 14]) [(.agg #[.int .i64 1, .int .i64 11, .int .i64 14], .bool true)] := fun w => by kernel_rfl
/-- What the circles of a program's pairs are said to be. -/
def WaySays (q1 q2 : Tri) (cc : Bool) : Prop := ∀ L : Gr, (∀ x y, Edge L x y ↔ (x = q1.1 ∧ y = q1.2.1) ∨ (x = q2.1 ∧ y = q2.2.1)) → (Way L q1.2.1 q1.1 ↔ cc = true) ∧ (Way L q2.2.1 q2.1 ↔ cc = true)
/-- What lies as it lay while the findings are noted. -/
structure FLoop (w : World) (b : Nat → Nat) (gb m : Nat) (L : Gr) (W : World) : Prop where
  p : BoxAt W w.heap.size (pgL b)
  gr : GraphAt W (w.heap.size + 1) (w.heap.size + 1) L
  cl : BoxAt W gb [.map (some (w.heap.size + 1))]
  bl : Below w.heap.size w W
theorem FLoop.below {w W W' : World} {b : Nat → Nat} {gb m : Nat} {L : Gr} (h : FLoop w b gb m L W) (hb : Below W.heap.size W W') : FLoop w b gb m L W' :=
  ⟨h.p.below hb, h.gr.below hb, h.cl.below hb, h.bl.trans (hb.mono h.bl.size)⟩
theorem FLoop.but {w W W' : World} {b : Nat → Nat} {gb m : Nat} {L : Gr} (h : FLoop w b gb m L W) (hb : But (fun k => k = m) W W') (hm : w.heap.size + 2 ≤ m ∧ gb ≠ m ∧ (∀ e ∈ L, e.2.1 ≠ m)) : FLoop w b gb m L W' :=
  ⟨h.p.but hb (by omega), h.gr.but hb (by omega) hm.2.2, h.cl.but hb hm.2.1, h.bl.trans (hb.below h.bl.size (fun k hk => by omega))⟩
def fsOf (cc : Bool) : List Tri := if cc then [(1, 11, 14), (2, 21, 14)] else []
set_option maxRecDepth 100000 in
set_option maxHeartbeats 16000000 in
theorem findings_any (b : Nat → Nat) (d1 d2 : Dn) (h1 : d1.id = 1) (h2 : d2.id = 2) (a1 b1 a2 b2 : Int) (cc : Bool) (hway : WaySays (a1, b1, 11) (a2, b2, 21) cc) (p1 p2 : Pv) (B0 g c : Nat) (w : World)
    (hp : PvsAt w B0 g p1 p2 (a1, b1, 11) (a2, b2, 21)) (hD : DefsAt w (b 5) d1 d2) (hh : BoxAt w (b 4) headL) :
    Calls Tryz.prog 41 #[.agg (pgL b).toArray, .slice (some ⟨g, 0, none⟩) 2 c, .slice none 0 0] w (FdTo w (fsOf cc)) := by
  have HP := hide hp.box
  have HQ1 := hide hp.pr1
  have HQ2 := hide hp.pr2
  have hi1 := hp.id1
  have hi2 := hp.id2
  have HD := hide hD; clear hD
  have HH := hide hh; clear hh
  have Hway := hide hway; clear hway
  clear hp
  have Hlt : Hid (g < w.heap.size ∧ p1.gp < w.heap.size ∧ p2.gp < w.heap.size) := hide ⟨HP.out.2.2, BoxAt.lt0 HQ1.out, BoxAt.lt0 HQ2.out⟩
  have hf1 : ∀ W, Below w.heap.size w W → Calls Tryz.prog 69 #[.agg (pgL b).toArray, .int .i64 1] W fun e w' => e = .returned (.tuple #[.agg (dnL d1).toArray, .bool true]) ∧ Below W.heap.size W w' := fun W hW => by
    have := find_one b d1 d2 W (HD.out.below hW)
    rwa [h1] at this
  have hf2 : ∀ W, Below w.heap.size w W → Calls Tryz.prog 69 #[.agg (pgL b).toArray, .int .i64 2] W fun e w' => e = .returned (.tuple #[.agg (dnL d2).toArray, .bool true]) ∧ Below W.heap.size W w' := fun W hW => by
    have := find_two b d1 d2 (by omega) W (HD.out.below hW)
    rwa [h2] at this
  have Hf1 := hide hf1
  have Hf2 := hide hf2
  clear hf1 hf2
  have hk0 : ∀ W, (Instr.makeMap 69 none).run Tryz.prog W = .ok (.map (some W.heap.size)) (W.alloc (.map #[] 0)) := fun _ => by kernel_rfl
  have hk1 : ∀ W, (Instr.makeMap 152 none).run Tryz.prog W = .ok (.map (some W.heap.size)) (W.alloc (.map #[] 0)) := fun _ => by kernel_rfl
  go_enter Tryz.func41, Tryz.ntmps41
  simp only [pgL]
  go_upto_region 2 with (fail)
  obtain ⟨W, hW⟩ : ∃ V, V = (w.alloc (.cells (pgL b).toArray 48)).alloc (.map #[] 0) := ⟨_, rfl⟩
  have hal : ∀ (V : World) (o : Obj), Below V.heap.size V (V.alloc o) := fun V o => (Below.refl _ V).alloc (Nat.le_refl _) _
  have s1 := World.size_alloc w (.cells (pgL b).toArray 48)
  have H3 := hide (show BoxAt W w.heap.size (pgL b) by rw [hW]; exact (BoxAt.new w (pgL b) 48).below (hal _ _))
  have HG := hide (show GraphAt W (w.heap.size + 1) (w.heap.size + 1) [] by rw [hW]; refine graph_none _ _ _ ?_ (Nat.le_refl _); have := MapAt.new (w.alloc (.cells (pgL b).toArray 48)); rwa [s1] at this)
  have HbW : Hid (Below w.heap.size w W) := hide (by rw [hW]; exact (hal w _).trans ((hal _ _).mono (by simp)))
  have Hz : Hid (w.heap.size + 2 ≤ W.heap.size) := hide (by rw [hW]; simp)
  have hW' := hW
  simp only [pgL] at hW'
  rw [← hW']
  clear hW hW' s1 hk0
  go_upto_block 0 with (first
    | ((with_reducible refine wpList_load_mid ?_ 48 (.tmp 3) ?_ (w.heap.size) (0) ?_ (pgL b) _ ?_ Tryz.underlying48 ?_ ?_ ?_); (focus rfl); (focus rfl); (focus rfl); (focus exact H3.out.whole); (focus rfl); (focus kernel_rfl); simp only [pgL])
    | (go_at_call 37; refine (sums_any b (.slice (some ⟨g, 0, none⟩) 2 c) (some p1) (some p2) (fun p hp => by cases hp; exact hi1) (fun p hp => by cases hp; exact hi2) _ (fun V hV => ⟨proof2 p1 p2 hi1 hi2 g c 1 (.inl rfl) V (HP.out.below (HbW.out.trans (hV.mono HbW.out.size))), proof2 p1 p2 hi1 hi2 g c 2 (.inr rfl) V (HP.out.below (HbW.out.trans (hV.mono HbW.out.size)))⟩) (HH.out.below HbW.out)).mono ?_; rintro e w1 ⟨gS, cS, sa1, sa2, rfl, hsa1, hsa2, hbS, hgS, hb1⟩; replace H3 := hide (H3.out.below hb1); replace HG := hide (HG.out.below hb1); replace Hz := hide (Nat.le_trans Hz.out hb1.size); replace HbW := hide (HbW.out.trans (hb1.mono HbW.out.size)); clear hb1; have HS := hide hbS; have Hs1 := hide hsa1; have Hs2 := hide hsa2; clear hbS hsa1 hsa2 hgS))
  go_wp2_with fail
  refine wp_loop_rounds 3 ?_
  rw [rounds_succ]
  go_upto_region 5 with (first
    | ((with_reducible refine wpList_load_mid ?_ 59 (.tmp 32) ?_ (gS) (0) ?_ (sgL 1 sa1) _ ?_ Tryz.underlying59 ?_ ?_ ?_); (focus rfl); (focus rfl); (focus rfl); (focus exact HS.out.sub 0 (sgL 1 sa1) rfl); (focus rfl); (focus kernel_rfl))
    | ((with_reducible refine wpList_store_new ?_ ?_ 59 (.tmp 9) (.tmp 33) ?_ (sgL 1 sa1) ?_ ?_ ?_ ?_ ?_ ?_); (focus rfl); (focus rfl); (focus rfl); (focus rfl); (focus rfl); (focus rfl); (focus kernel_rfl); (focus exact (sgL_one Hs1.out)); intro V91 hV91 hbV91; have HV91 := hide hV91; have HbV91 := hide hbV91; clear hV91 hbV91; replace H3 := hide (H3.out.below HbV91.out); replace HG := hide (HG.out.below HbV91.out); replace HS := hide (HS.out.below HbV91.out); replace Hz := hide (Nat.le_trans Hz.out HbV91.out.size); replace HbW := hide (HbW.out.trans (HbV91.out.mono HbW.out.size))))
  obtain ⟨g9, hq9⟩ : ∃ q, q = w1.heap.size := ⟨_, rfl⟩
  rw [← hq9] at HV91 ⊢
  clear hq9
  have q9 : V91.cell? ⟨g9, 0, none⟩ = some (.int .i64 1) := HV91.out.1 0 _ rfl
  go_upto_region 6 with (first
    | ((with_reducible refine wpList_load_mid ?_ 48 (.tmp 3) ?_ (w.heap.size) (0) ?_ (pgL b) _ ?_ Tryz.underlying48 ?_ ?_ ?_); (focus rfl); (focus rfl); (focus rfl); (focus exact H3.out.whole); (focus rfl); (focus kernel_rfl); simp only [pgL])
    | (go_at_call 69; refine (Hf1.out _ HbW.out).mono ?_; rintro e w2 ⟨rfl, hb2⟩; clear q9; replace H3 := hide (H3.out.below hb2); replace HG := hide (HG.out.below hb2); replace HS := hide (HS.out.below hb2); replace Hz := hide (Nat.le_trans Hz.out hb2.size); replace HbW := hide (HbW.out.trans (hb2.mono HbW.out.size)); clear hb2)
    | ((with_reducible refine wpList_store_new ?_ ?_ 83 (.tmp 10) (.tmp 39) ?_ (dnL d1) ?_ ?_ ?_ ?_ ?_ ?_); (focus rfl); (focus rfl); (focus rfl); (focus rfl); (focus rfl); (focus rfl); (focus kernel_rfl); (focus exact dnL_one); intro V11 hV11 hbV11; have HV11 := hide hV11; have HbV11 := hide hbV11; clear hV11 hbV11; replace H3 := hide (H3.out.below HbV11.out); replace HG := hide (HG.out.below HbV11.out); replace HS := hide (HS.out.below HbV11.out); replace Hz := hide (Nat.le_trans Hz.out HbV11.out.size); replace HbW := hide (HbW.out.trans (HbV11.out.mono HbW.out.size))))
  go_wp2_with fail
  rw [rounds_succ]
  go_upto_region 5 with (first
    | ((with_reducible refine wpList_load_mid ?_ 59 (.tmp 32) ?_ (gS) (11) ?_ (sgL 2 sa2) _ ?_ Tryz.underlying59 ?_ ?_ ?_); (focus rfl); (focus rfl); (focus rfl); (focus exact HS.out.sub 11 (sgL 2 sa2) rfl); (focus rfl); (focus kernel_rfl))
    | ((with_reducible refine wpList_store_new ?_ ?_ 59 (.tmp 9) (.tmp 33) ?_ (sgL 2 sa2) ?_ ?_ ?_ ?_ ?_ ?_); (focus rfl); (focus rfl); (focus rfl); (focus rfl); (focus rfl); (focus rfl); (focus kernel_rfl); (focus exact (sgL_one Hs2.out)); intro V92 hV92 hbV92; have HV92 := hide hV92; have HbV92 := hide hbV92; clear hV92 hbV92; replace H3 := hide (H3.out.below HbV92.out); replace HG := hide (HG.out.below HbV92.out); replace HS := hide (HS.out.below HbV92.out); replace Hz := hide (Nat.le_trans Hz.out HbV92.out.size); replace HbW := hide (HbW.out.trans (HbV92.out.mono HbW.out.size))))
  obtain ⟨g9, hq9⟩ : ∃ q, q = V11.heap.size := ⟨_, rfl⟩
  rw [← hq9] at HV92 ⊢
  clear hq9
  have q9 : V92.cell? ⟨g9, 0, none⟩ = some (.int .i64 2) := HV92.out.1 0 _ rfl
  go_upto_region 6 with (first
    | ((with_reducible refine wpList_load_mid ?_ 48 (.tmp 3) ?_ (w.heap.size) (0) ?_ (pgL b) _ ?_ Tryz.underlying48 ?_ ?_ ?_); (focus rfl); (focus rfl); (focus rfl); (focus exact H3.out.whole); (focus rfl); (focus kernel_rfl); simp only [pgL])
    | (go_at_call 69; refine (Hf2.out _ HbW.out).mono ?_; rintro e w2 ⟨rfl, hb2⟩; clear q9; replace H3 := hide (H3.out.below hb2); replace HG := hide (HG.out.below hb2); replace HS := hide (HS.out.below hb2); replace Hz := hide (Nat.le_trans Hz.out hb2.size); replace HbW := hide (HbW.out.trans (hb2.mono HbW.out.size)); clear hb2)
    | ((with_reducible refine wpList_store_new ?_ ?_ 83 (.tmp 10) (.tmp 39) ?_ (dnL d2) ?_ ?_ ?_ ?_ ?_ ?_); (focus rfl); (focus rfl); (focus rfl); (focus rfl); (focus rfl); (focus rfl); (focus kernel_rfl); (focus exact dnL_one); intro V12 hV12 hbV12; have HV12 := hide hV12; have HbV12 := hide hbV12; clear hV12 hbV12; replace H3 := hide (H3.out.below HbV12.out); replace HG := hide (HG.out.below HbV12.out); replace HS := hide (HS.out.below HbV12.out); replace Hz := hide (Nat.le_trans Hz.out HbV12.out.size); replace HbW := hide (HbW.out.trans (HbV12.out.mono HbW.out.size))))
  go_wp2_with fail
  rw [rounds_succ]
  go_upto_block 2 with (fail)
  clear HS Hs1 Hs2
  go_wp2_with fail
  refine wp_loop_rounds 3 ?_
  rw [rounds_succ]
  go_upto_region 12 with (first
    | ((with_reducible refine wpList_load_mid ?_ 61 (.tmp 52) ?_ (g) (0) ?_ (pvL p1) _ ?_ Tryz.underlying61 ?_ ?_ ?_); (focus rfl); (focus rfl); (focus rfl); (focus exact (HP.out.below HbW.out).sub 0 (pvL p1) rfl); (focus rfl); (focus kernel_rfl))
    | ((with_reducible refine wpList_store_new ?_ ?_ 61 (.tmp 13) (.tmp 53) ?_ (pvL p1) ?_ ?_ ?_ ?_ ?_ ?_); (focus rfl); (focus rfl); (focus rfl); (focus rfl); (focus rfl); (focus rfl); (focus kernel_rfl); (focus exact (pvL_one p1)); intro V131 hV131 hbV131; have HV131 := hide hV131; have HbV131 := hide hbV131; clear hV131 hbV131; replace H3 := hide (H3.out.below HbV131.out); replace HG := hide (HG.out.below HbV131.out); replace Hz := hide (Nat.le_trans Hz.out HbV131.out.size); replace HbW := hide (HbW.out.trans (HbV131.out.mono HbW.out.size))))
  obtain ⟨g13, hq13⟩ : ∃ q, q = V12.heap.size := ⟨_, rfl⟩
  rw [← hq13] at HV131 ⊢
  clear hq13
  have q13 : V131.cell? ⟨g13, 14, none⟩ = some (.slice (some ⟨p1.gp, 0, none⟩) 1 p1.cp) := HV131.out.1 14 _ rfl
  go_wp2_with (first
    | (go_at_call 11; refine (add_any (w.heap.size + 1) (w.heap.size + 1) [] [(a1, b1, 11)] p1.gp p1.cp _ HG.out (by have := Hz.out; omega) (prat_prs (HQ1.out.below HbW.out)) (by have := Hlt.out; omega) (by simp)).mono ?_; rintro e w4 ⟨L1, rfl, hG, hE1, hb⟩; clear q13; replace HG := hide hG; have HE1 := hide hE1; replace H3 := hide (H3.out.lo hb (by omega)); replace Hz := hide (Nat.le_trans Hz.out hb.size); replace HbW := hide (HbW.out.trans (hb.mono (by omega))); clear hG hE1 hb))
  rw [rounds_succ]
  go_upto_region 12 with (first
    | ((with_reducible refine wpList_load_mid ?_ 61 (.tmp 52) ?_ (g) (16) ?_ (pvL p2) _ ?_ Tryz.underlying61 ?_ ?_ ?_); (focus rfl); (focus rfl); (focus rfl); (focus exact (HP.out.below HbW.out).sub 16 (pvL p2) rfl); (focus rfl); (focus kernel_rfl))
    | ((with_reducible refine wpList_store_new ?_ ?_ 61 (.tmp 13) (.tmp 53) ?_ (pvL p2) ?_ ?_ ?_ ?_ ?_ ?_); (focus rfl); (focus rfl); (focus rfl); (focus rfl); (focus rfl); (focus rfl); (focus kernel_rfl); (focus exact (pvL_one p2)); intro V132 hV132 hbV132; have HV132 := hide hV132; have HbV132 := hide hbV132; clear hV132 hbV132; replace H3 := hide (H3.out.below HbV132.out); replace HG := hide (HG.out.below HbV132.out); replace Hz := hide (Nat.le_trans Hz.out HbV132.out.size); replace HbW := hide (HbW.out.trans (HbV132.out.mono HbW.out.size))))
  obtain ⟨g13, hq13⟩ : ∃ q, q = w4.heap.size := ⟨_, rfl⟩
  rw [← hq13] at HV132 ⊢
  clear hq13
  have q13 : V132.cell? ⟨g13, 14, none⟩ = some (.slice (some ⟨p2.gp, 0, none⟩) 1 p2.cp) := HV132.out.1 14 _ rfl
  go_wp2_with (first
    | (go_at_call 11; refine (add_any (w.heap.size + 1) (w.heap.size + 1) L1 [(a2, b2, 21)] p2.gp p2.cp _ HG.out (by have := Hz.out; omega) (prat_prs (HQ2.out.below HbW.out)) (by have := Hlt.out; omega) (by simp)).mono ?_; rintro e w5 ⟨L2, rfl, hG, hE2, hb⟩; clear q13; replace HG := hide hG; have HE2 := hide hE2; replace H3 := hide (H3.out.lo hb (by omega)); replace Hz := hide (Nat.le_trans Hz.out hb.size); replace HbW := hide (HbW.out.trans (hb.mono (by omega))); clear hG hE2 hb))
  rw [rounds_succ]
  have Hzz : Hid (w.heap.size + 2 ≤ w5.heap.size) := Hz
  go_upto_region 15 with (first
    | (go_at_call 12; refine (circled_fn (w.heap.size + 1) _).mono ?_; rintro e w6 ⟨rfl, hbg, hb⟩; replace H3 := hide (H3.out.below hb); replace HG := hide (HG.out.below hb); replace Hz := hide (Nat.le_trans Hz.out hb.size); replace HbW := hide (HbW.out.trans (hb.mono HbW.out.size)); have HB := hide hbg; clear hbg hb))
  have hway := Hway.out L2 (fun x y => by
    rw [HE2.out, HE1.out]
    constructor
    · rintro ((h | ⟨s, h⟩) | ⟨s, h⟩)
      · obtain ⟨m, ks, h, -⟩ := h
        simp at h
      · simp only [List.mem_singleton, Prod.mk.injEq] at h
        exact .inl ⟨h.1, h.2.1⟩
      · simp only [List.mem_singleton, Prod.mk.injEq] at h
        exact .inr ⟨h.1, h.2.1⟩
    · rintro (⟨rfl, rfl⟩ | ⟨rfl, rfl⟩)
      · exact .inl (.inr ⟨11, by simp⟩)
      · exact .inr ⟨21, by simp⟩)
  have HWy := hide hway
  clear hway HE1 HE2
  obtain ⟨gb, hqb⟩ : ∃ q, q = w5.heap.size := ⟨_, rfl⟩
  rw [← hqb] at HB ⊢
  have Hgb : Hid (w.heap.size + 2 ≤ gb) := hide (by rw [hqb]; exact Hzz.out)
  clear hqb
  clear Hzz
  go_upto_region 16 with (fail)
  have HmX : gb < w6.heap.size := HB.out.2.2
  have HmG : ∀ e ∈ L2, e.2.1 < w6.heap.size := fun e he => MapAt.lt (HG.out.set e he)
  obtain ⟨X, hX⟩ : ∃ V, V = w6.alloc (.map #[] 0) := ⟨_, rfl⟩
  have hbX : Below w6.heap.size w6 X := by rw [hX]; exact hal _ _
  have HM := hide (show MapAt X w6.heap.size [] by rw [hX]; exact MapAt.new w6)
  rw [← hX]
  clear hX
  replace H3 := hide (H3.out.below hbX)
  replace HG := hide (HG.out.below hbX)
  replace HB := hide (HB.out.below hbX)
  obtain ⟨m, hqm⟩ : ∃ q, q = w6.heap.size := ⟨_, rfl⟩
  have Hm : Hid (w.heap.size + 2 ≤ m ∧ gb ≠ m ∧ (∀ e ∈ L2, e.2.1 ≠ m)) := hide ⟨by have := Hz.out; omega, by omega, fun e he => by have := HmG e he; omega⟩
  rw [← hqm] at HM ⊢
  replace HbW := hide (HbW.out.trans (hbX.mono HbW.out.size))
  clear hqm hbX hk1 hal HmX HmG
  have HL : Hid (FLoop w b gb m L2 X) := hide ⟨H3.out, HG.out, HB.out, HbW.out⟩
  clear H3 HG HB HbW
  go_wp2_with fail
  refine wp_loop_rounds 3 ?_
  cases cc
  · skip
    rw [rounds_succ]
    have HmL : Hid (m < X.heap.size) := hide HM.out.lt
    go_upto_region 19 with (first
      | ((with_reducible refine wpList_load_mid ?_ 61 (.tmp 66) ?_ (g) (0) ?_ (pvL p1) _ ?_ Tryz.underlying61 ?_ ?_ ?_); (focus rfl); (focus rfl); (focus rfl); (focus exact (HP.out.below HL.out.bl).sub 0 (pvL p1) rfl); (focus rfl); (focus kernel_rfl))
      | ((with_reducible refine wpList_store_new ?_ ?_ 61 (.tmp 17) (.tmp 67) ?_ (pvL p1) ?_ ?_ ?_ ?_ ?_ ?_); (focus rfl); (focus rfl); (focus rfl); (focus rfl); (focus rfl); (focus rfl); (focus kernel_rfl); (focus exact (pvL_one p1)); intro V17a hV17a hbV17a; have HV17a := hide hV17a; have HbV17a := hide hbV17a; clear hV17a hbV17a; replace HL := hide (HL.out.below HbV17a.out); replace HM := hide (HM.out.below HbV17a.out)))
    obtain ⟨g17, hq17⟩ : ∃ q, q = X.heap.size := ⟨_, rfl⟩
    rw [← hq17] at HV17a ⊢
    have Hg17 : Hid (g17 ≠ m) := hide (by have := HmL.out; omega)
    clear hq17 HmL
    have c0 : V17a.cell? ⟨g17, 13, none⟩ = some (.slice none 0 0) := HV17a.out.1 13 _ rfl
    have c1 : V17a.cell? ⟨g17, 14, none⟩ = some (.slice (some ⟨p1.gp, 0, none⟩) 1 p1.cp) := HV17a.out.1 14 _ rfl
    go_upto_block 6 with (fail)
    go_wp2_with fail
    refine wp_loop_rounds 1 ?_
    rw [rounds_succ]
    go_upto_block 8 with (fail)
    go_wp2_with fail
    refine wp_loop_rounds 2 ?_
    rw [rounds_succ]
    clear c0 c1
    go_upto_region 27 with (first
      | ((with_reducible refine wpList_load_mid ?_ 29 (.tmp 83) ?_ (p1.gp) (0) ?_ (prV (a1, b1, 11)) _ ?_ Tryz.underlying29 ?_ ?_ ?_); (focus rfl); (focus rfl); (focus rfl); (focus exact (HQ1.out.below HL.out.bl).whole); (focus rfl); (focus kernel_rfl))
      | ((with_reducible refine wpList_store_new ?_ ?_ 29 (.tmp 21) (.tmp 84) ?_ (prV (a1, b1, 11)) ?_ ?_ ?_ ?_ ?_ ?_); (focus rfl); (focus rfl); (focus rfl); (focus rfl); (focus rfl); (focus rfl); (focus kernel_rfl); (focus exact prV_one); intro V21a hV21a hbV21a; have HV21a := hide hV21a; have HbV21a := hide hbV21a; clear hV21a hbV21a; replace HL := hide (HL.out.below HbV21a.out); replace HM := hide (HM.out.below HbV21a.out); replace HV17a := hide (HV17a.out.below HbV21a.out)))
    obtain ⟨g21, hq21⟩ : ∃ q, q = V17a.heap.size := ⟨_, rfl⟩
    rw [← hq21] at HV21a ⊢
    clear hq21
    go_wp2_with (first
      | ((with_reducible refine wpList_load_mid ?_ 29 (.tmp 21) ?_ (g21) (0) ?_ (prV (a1, b1, 11)) _ ?_ Tryz.underlying29 ?_ ?_ ?_); (focus rfl); (focus rfl); (focus rfl); (focus exact HV21a.out.whole); (focus rfl); (focus kernel_rfl))
      | (go_at_call 27; refine (circ_any L2 gb (w.heap.size + 1) (w.heap.size + 1) a1 b1 11 _ HL.out.cl HL.out.gr).mono ?_; rintro e w7a ⟨r, rfl, hr, hb⟩; obtain rfl : r = false := Bool.eq_false_iff.2 (fun h => absurd ((hr.trans HWy.out.1).1 h) (by simp)); replace HL := hide (HL.out.below hb); replace HM := hide (HM.out.below hb); replace HV17a := hide (HV17a.out.below hb); replace HV21a := hide (HV21a.out.below hb); clear hb hr))
    rw [rounds_succ]
    have c0 : w7a.cell? ⟨g17, 0, none⟩ = some (.int .i64 1) := by rw [← hi1]; exact HV17a.out.1 0 _ rfl
    go_upto_region 31 with (first
      | ((with_reducible refine wpList_load_mid ?_ 48 (.tmp 3) ?_ (w.heap.size) (0) ?_ (pgL b) _ ?_ Tryz.underlying48 ?_ ?_ ?_); (focus rfl); (focus rfl); (focus rfl); (focus exact HL.out.p.whole); (focus rfl); (focus kernel_rfl); simp only [pgL])
      | (go_at_call 69; refine (Hf1.out _ HL.out.bl).mono ?_; rintro e w9a ⟨rfl, hb⟩; clear c0; replace HL := hide (HL.out.below hb); replace HM := hide (HM.out.below hb); replace HV17a := hide (HV17a.out.below hb); clear hb)
      | ((with_reducible refine wpList_store_new ?_ ?_ 83 (.tmp 22) (.tmp 100) ?_ (dnL d1) ?_ ?_ ?_ ?_ ?_ ?_); (focus rfl); (focus rfl); (focus rfl); (focus rfl); (focus rfl); (focus rfl); (focus kernel_rfl); (focus exact dnL_one); intro V22a hV22a hbV22a; have HV22a := hide hV22a; have HbV22a := hide hbV22a; clear hV22a hbV22a; replace HL := hide (HL.out.below HbV22a.out); replace HM := hide (HM.out.below HbV22a.out); replace HV17a := hide (HV17a.out.below HbV22a.out)))
    have c8 : V22a.cell? ⟨g17, 8, none⟩ = some (.int .i64 0) := HV17a.out.1 8 _ rfl
    go_wp2_with fail
    clear c8 HV17a HV21a Hg17
    rw [rounds_succ]
    have HmL : Hid (m < V22a.heap.size) := hide HM.out.lt
    go_upto_region 19 with (first
      | ((with_reducible refine wpList_load_mid ?_ 61 (.tmp 66) ?_ (g) (16) ?_ (pvL p2) _ ?_ Tryz.underlying61 ?_ ?_ ?_); (focus rfl); (focus rfl); (focus rfl); (focus exact (HP.out.below HL.out.bl).sub 16 (pvL p2) rfl); (focus rfl); (focus kernel_rfl))
      | ((with_reducible refine wpList_store_new ?_ ?_ 61 (.tmp 17) (.tmp 67) ?_ (pvL p2) ?_ ?_ ?_ ?_ ?_ ?_); (focus rfl); (focus rfl); (focus rfl); (focus rfl); (focus rfl); (focus rfl); (focus kernel_rfl); (focus exact (pvL_one p2)); intro V17b hV17b hbV17b; have HV17b := hide hV17b; have HbV17b := hide hbV17b; clear hV17b hbV17b; replace HL := hide (HL.out.below HbV17b.out); replace HM := hide (HM.out.below HbV17b.out)))
    obtain ⟨g17, hq17⟩ : ∃ q, q = V22a.heap.size := ⟨_, rfl⟩
    rw [← hq17] at HV17b ⊢
    have Hg17 : Hid (g17 ≠ m) := hide (by have := HmL.out; omega)
    clear hq17 HmL
    have c0 : V17b.cell? ⟨g17, 13, none⟩ = some (.slice none 0 0) := HV17b.out.1 13 _ rfl
    have c1 : V17b.cell? ⟨g17, 14, none⟩ = some (.slice (some ⟨p2.gp, 0, none⟩) 1 p2.cp) := HV17b.out.1 14 _ rfl
    go_upto_block 6 with (fail)
    go_wp2_with fail
    refine wp_loop_rounds 1 ?_
    rw [rounds_succ]
    go_upto_block 8 with (fail)
    go_wp2_with fail
    refine wp_loop_rounds 2 ?_
    rw [rounds_succ]
    clear c0 c1
    go_upto_region 27 with (first
      | ((with_reducible refine wpList_load_mid ?_ 29 (.tmp 83) ?_ (p2.gp) (0) ?_ (prV (a2, b2, 21)) _ ?_ Tryz.underlying29 ?_ ?_ ?_); (focus rfl); (focus rfl); (focus rfl); (focus exact (HQ2.out.below HL.out.bl).whole); (focus rfl); (focus kernel_rfl))
      | ((with_reducible refine wpList_store_new ?_ ?_ 29 (.tmp 21) (.tmp 84) ?_ (prV (a2, b2, 21)) ?_ ?_ ?_ ?_ ?_ ?_); (focus rfl); (focus rfl); (focus rfl); (focus rfl); (focus rfl); (focus rfl); (focus kernel_rfl); (focus exact prV_one); intro V21b hV21b hbV21b; have HV21b := hide hV21b; have HbV21b := hide hbV21b; clear hV21b hbV21b; replace HL := hide (HL.out.below HbV21b.out); replace HM := hide (HM.out.below HbV21b.out); replace HV17b := hide (HV17b.out.below HbV21b.out)))
    obtain ⟨g21, hq21⟩ : ∃ q, q = V17b.heap.size := ⟨_, rfl⟩
    rw [← hq21] at HV21b ⊢
    clear hq21
    go_wp2_with (first
      | ((with_reducible refine wpList_load_mid ?_ 29 (.tmp 21) ?_ (g21) (0) ?_ (prV (a2, b2, 21)) _ ?_ Tryz.underlying29 ?_ ?_ ?_); (focus rfl); (focus rfl); (focus rfl); (focus exact HV21b.out.whole); (focus rfl); (focus kernel_rfl))
      | (go_at_call 27; refine (circ_any L2 gb (w.heap.size + 1) (w.heap.size + 1) a2 b2 21 _ HL.out.cl HL.out.gr).mono ?_; rintro e w7b ⟨r, rfl, hr, hb⟩; obtain rfl : r = false := Bool.eq_false_iff.2 (fun h => absurd ((hr.trans HWy.out.2).1 h) (by simp)); replace HL := hide (HL.out.below hb); replace HM := hide (HM.out.below hb); replace HV17b := hide (HV17b.out.below hb); replace HV21b := hide (HV21b.out.below hb); clear hb hr))
    rw [rounds_succ]
    have c0 : w7b.cell? ⟨g17, 0, none⟩ = some (.int .i64 2) := by rw [← hi2]; exact HV17b.out.1 0 _ rfl
    go_upto_region 31 with (first
      | ((with_reducible refine wpList_load_mid ?_ 48 (.tmp 3) ?_ (w.heap.size) (0) ?_ (pgL b) _ ?_ Tryz.underlying48 ?_ ?_ ?_); (focus rfl); (focus rfl); (focus rfl); (focus exact HL.out.p.whole); (focus rfl); (focus kernel_rfl); simp only [pgL])
      | (go_at_call 69; refine (Hf2.out _ HL.out.bl).mono ?_; rintro e w9b ⟨rfl, hb⟩; clear c0; replace HL := hide (HL.out.below hb); replace HM := hide (HM.out.below hb); replace HV17b := hide (HV17b.out.below hb); clear hb)
      | ((with_reducible refine wpList_store_new ?_ ?_ 83 (.tmp 22) (.tmp 100) ?_ (dnL d2) ?_ ?_ ?_ ?_ ?_ ?_); (focus rfl); (focus rfl); (focus rfl); (focus rfl); (focus rfl); (focus rfl); (focus kernel_rfl); (focus exact dnL_one); intro V22b hV22b hbV22b; have HV22b := hide hV22b; have HbV22b := hide hbV22b; clear hV22b hbV22b; replace HL := hide (HL.out.below HbV22b.out); replace HM := hide (HM.out.below HbV22b.out); replace HV17b := hide (HV17b.out.below HbV22b.out)))
    have c8 : V22b.cell? ⟨g17, 8, none⟩ = some (.int .i64 0) := HV17b.out.1 8 _ rfl
    go_wp2_with fail
    clear c8 HV17b HV21b Hg17
    rw [rounds_succ]
    go_wp2_with (first
      | (go_at_call 78; refine (fkeys_fn m _).mono ?_; rintro e w10 ⟨rfl, hbk, hb⟩; replace HL := hide (HL.out.below hb); replace HM := hide (HM.out.below hb); have HK := hide hbk; clear hbk hb)
      | (go_at_call 77; refine (sorted_any _ m [] (by simp) _ HK.out.2.2 (HK.out.1 0 _ rfl) HM.out).mono ?_; rintro e w11 ⟨A, cF, rs, rfl, hpm, hso, hfa, hb⟩; have Hpm := hide hpm; have Hso := hide hso; have Hfa := hide hfa; have Hbe := hide hb; clear hpm hso hfa hb))
    go_ret
    exact ⟨A, cF, rfl, fun h => absurd h (by simp [fsOf]), HL.out.bl.trans (Hbe.out.mono HL.out.bl.size)⟩

  · skip
    rw [rounds_succ]
    have HmL : Hid (m < X.heap.size) := hide HM.out.lt
    go_upto_region 19 with (first
      | ((with_reducible refine wpList_load_mid ?_ 61 (.tmp 66) ?_ (g) (0) ?_ (pvL p1) _ ?_ Tryz.underlying61 ?_ ?_ ?_); (focus rfl); (focus rfl); (focus rfl); (focus exact (HP.out.below HL.out.bl).sub 0 (pvL p1) rfl); (focus rfl); (focus kernel_rfl))
      | ((with_reducible refine wpList_store_new ?_ ?_ 61 (.tmp 17) (.tmp 67) ?_ (pvL p1) ?_ ?_ ?_ ?_ ?_ ?_); (focus rfl); (focus rfl); (focus rfl); (focus rfl); (focus rfl); (focus rfl); (focus kernel_rfl); (focus exact (pvL_one p1)); intro V17a hV17a hbV17a; have HV17a := hide hV17a; have HbV17a := hide hbV17a; clear hV17a hbV17a; replace HL := hide (HL.out.below HbV17a.out); replace HM := hide (HM.out.below HbV17a.out)))
    obtain ⟨g17, hq17⟩ : ∃ q, q = X.heap.size := ⟨_, rfl⟩
    rw [← hq17] at HV17a ⊢
    have Hg17 : Hid (g17 ≠ m) := hide (by have := HmL.out; omega)
    clear hq17 HmL
    have c0 : V17a.cell? ⟨g17, 13, none⟩ = some (.slice none 0 0) := HV17a.out.1 13 _ rfl
    have c1 : V17a.cell? ⟨g17, 14, none⟩ = some (.slice (some ⟨p1.gp, 0, none⟩) 1 p1.cp) := HV17a.out.1 14 _ rfl
    go_upto_block 6 with (fail)
    go_wp2_with fail
    refine wp_loop_rounds 1 ?_
    rw [rounds_succ]
    go_upto_block 8 with (fail)
    go_wp2_with fail
    refine wp_loop_rounds 2 ?_
    rw [rounds_succ]
    clear c0 c1
    go_upto_region 27 with (first
      | ((with_reducible refine wpList_load_mid ?_ 29 (.tmp 83) ?_ (p1.gp) (0) ?_ (prV (a1, b1, 11)) _ ?_ Tryz.underlying29 ?_ ?_ ?_); (focus rfl); (focus rfl); (focus rfl); (focus exact (HQ1.out.below HL.out.bl).whole); (focus rfl); (focus kernel_rfl))
      | ((with_reducible refine wpList_store_new ?_ ?_ 29 (.tmp 21) (.tmp 84) ?_ (prV (a1, b1, 11)) ?_ ?_ ?_ ?_ ?_ ?_); (focus rfl); (focus rfl); (focus rfl); (focus rfl); (focus rfl); (focus rfl); (focus kernel_rfl); (focus exact prV_one); intro V21a hV21a hbV21a; have HV21a := hide hV21a; have HbV21a := hide hbV21a; clear hV21a hbV21a; replace HL := hide (HL.out.below HbV21a.out); replace HM := hide (HM.out.below HbV21a.out); replace HV17a := hide (HV17a.out.below HbV21a.out)))
    obtain ⟨g21, hq21⟩ : ∃ q, q = V17a.heap.size := ⟨_, rfl⟩
    rw [← hq21] at HV21a ⊢
    clear hq21
    go_upto_region 28 with (first
      | ((with_reducible refine wpList_load_mid ?_ 29 (.tmp 21) ?_ (g21) (0) ?_ (prV (a1, b1, 11)) _ ?_ Tryz.underlying29 ?_ ?_ ?_); (focus rfl); (focus rfl); (focus rfl); (focus exact HV21a.out.whole); (focus rfl); (focus kernel_rfl))
      | (go_at_call 27; refine (circ_any L2 gb (w.heap.size + 1) (w.heap.size + 1) a1 b1 11 _ HL.out.cl HL.out.gr).mono ?_; rintro e w7a ⟨r, rfl, hr, hb⟩; obtain rfl : r = true := (hr.trans HWy.out.1).2 (by first | trivial | rfl); replace HL := hide (HL.out.below hb); replace HM := hide (HM.out.below hb); replace HV17a := hide (HV17a.out.below hb); replace HV21a := hide (HV21a.out.below hb); clear hb hr))
    have c0 : w7a.cell? ⟨g17, 0, none⟩ = some (.int .i64 1) := by rw [← hi1]; exact HV17a.out.1 0 _ rfl
    have c1 : w7a.cell? ⟨g21, 2, none⟩ = some (.int .i64 11) := HV21a.out.1 2 _ rfl
    go_wp2_with (first
      | ((with_reducible refine wpList_update_new ?_ ?_ ?_ (.tmp 88) (.tmp 93) (.const (.bool true)) ?_ m (.agg #[.int .i64 1, .int .i64 11, .int .i64 14]) (.bool true) [] ?_ ?_ ?_ Tryz.underlying152 HM.out (check_find _ _ _) (noKey_nil Tryz.underlying54 _) ?_); (focus rfl); (focus rfl); (focus rfl); (focus rfl); (focus rfl); (focus rfl); (focus rfl); intro V28a hmp hT; clear c0 c1; replace HM : Hid (MapAt V28a m [((.agg #[.int .i64 1, .int .i64 11, .int .i64 14]), .bool true)]) := hide hmp; replace HL := hide (HL.out.but hT Hm.out); replace HV17a := hide (HV17a.out.but hT Hg17.out); clear hmp hT))
    rw [rounds_succ]
    have c0 : V28a.cell? ⟨g17, 0, none⟩ = some (.int .i64 1) := by rw [← hi1]; exact HV17a.out.1 0 _ rfl
    go_upto_region 31 with (first
      | ((with_reducible refine wpList_load_mid ?_ 48 (.tmp 3) ?_ (w.heap.size) (0) ?_ (pgL b) _ ?_ Tryz.underlying48 ?_ ?_ ?_); (focus rfl); (focus rfl); (focus rfl); (focus exact HL.out.p.whole); (focus rfl); (focus kernel_rfl); simp only [pgL])
      | (go_at_call 69; refine (Hf1.out _ HL.out.bl).mono ?_; rintro e w9a ⟨rfl, hb⟩; clear c0; replace HL := hide (HL.out.below hb); replace HM := hide (HM.out.below hb); replace HV17a := hide (HV17a.out.below hb); clear hb)
      | ((with_reducible refine wpList_store_new ?_ ?_ 83 (.tmp 22) (.tmp 100) ?_ (dnL d1) ?_ ?_ ?_ ?_ ?_ ?_); (focus rfl); (focus rfl); (focus rfl); (focus rfl); (focus rfl); (focus rfl); (focus kernel_rfl); (focus exact dnL_one); intro V22a hV22a hbV22a; have HV22a := hide hV22a; have HbV22a := hide hbV22a; clear hV22a hbV22a; replace HL := hide (HL.out.below HbV22a.out); replace HM := hide (HM.out.below HbV22a.out); replace HV17a := hide (HV17a.out.below HbV22a.out)))
    have c8 : V22a.cell? ⟨g17, 8, none⟩ = some (.int .i64 0) := HV17a.out.1 8 _ rfl
    go_wp2_with fail
    clear c8 HV17a HV21a Hg17
    rw [rounds_succ]
    have HmL : Hid (m < V22a.heap.size) := hide HM.out.lt
    go_upto_region 19 with (first
      | ((with_reducible refine wpList_load_mid ?_ 61 (.tmp 66) ?_ (g) (16) ?_ (pvL p2) _ ?_ Tryz.underlying61 ?_ ?_ ?_); (focus rfl); (focus rfl); (focus rfl); (focus exact (HP.out.below HL.out.bl).sub 16 (pvL p2) rfl); (focus rfl); (focus kernel_rfl))
      | ((with_reducible refine wpList_store_new ?_ ?_ 61 (.tmp 17) (.tmp 67) ?_ (pvL p2) ?_ ?_ ?_ ?_ ?_ ?_); (focus rfl); (focus rfl); (focus rfl); (focus rfl); (focus rfl); (focus rfl); (focus kernel_rfl); (focus exact (pvL_one p2)); intro V17b hV17b hbV17b; have HV17b := hide hV17b; have HbV17b := hide hbV17b; clear hV17b hbV17b; replace HL := hide (HL.out.below HbV17b.out); replace HM := hide (HM.out.below HbV17b.out)))
    obtain ⟨g17, hq17⟩ : ∃ q, q = V22a.heap.size := ⟨_, rfl⟩
    rw [← hq17] at HV17b ⊢
    have Hg17 : Hid (g17 ≠ m) := hide (by have := HmL.out; omega)
    clear hq17 HmL
    have c0 : V17b.cell? ⟨g17, 13, none⟩ = some (.slice none 0 0) := HV17b.out.1 13 _ rfl
    have c1 : V17b.cell? ⟨g17, 14, none⟩ = some (.slice (some ⟨p2.gp, 0, none⟩) 1 p2.cp) := HV17b.out.1 14 _ rfl
    go_upto_block 6 with (fail)
    go_wp2_with fail
    refine wp_loop_rounds 1 ?_
    rw [rounds_succ]
    go_upto_block 8 with (fail)
    go_wp2_with fail
    refine wp_loop_rounds 2 ?_
    rw [rounds_succ]
    clear c0 c1
    go_upto_region 27 with (first
      | ((with_reducible refine wpList_load_mid ?_ 29 (.tmp 83) ?_ (p2.gp) (0) ?_ (prV (a2, b2, 21)) _ ?_ Tryz.underlying29 ?_ ?_ ?_); (focus rfl); (focus rfl); (focus rfl); (focus exact (HQ2.out.below HL.out.bl).whole); (focus rfl); (focus kernel_rfl))
      | ((with_reducible refine wpList_store_new ?_ ?_ 29 (.tmp 21) (.tmp 84) ?_ (prV (a2, b2, 21)) ?_ ?_ ?_ ?_ ?_ ?_); (focus rfl); (focus rfl); (focus rfl); (focus rfl); (focus rfl); (focus rfl); (focus kernel_rfl); (focus exact prV_one); intro V21b hV21b hbV21b; have HV21b := hide hV21b; have HbV21b := hide hbV21b; clear hV21b hbV21b; replace HL := hide (HL.out.below HbV21b.out); replace HM := hide (HM.out.below HbV21b.out); replace HV17b := hide (HV17b.out.below HbV21b.out)))
    obtain ⟨g21, hq21⟩ : ∃ q, q = V17b.heap.size := ⟨_, rfl⟩
    rw [← hq21] at HV21b ⊢
    clear hq21
    go_upto_region 28 with (first
      | ((with_reducible refine wpList_load_mid ?_ 29 (.tmp 21) ?_ (g21) (0) ?_ (prV (a2, b2, 21)) _ ?_ Tryz.underlying29 ?_ ?_ ?_); (focus rfl); (focus rfl); (focus rfl); (focus exact HV21b.out.whole); (focus rfl); (focus kernel_rfl))
      | (go_at_call 27; refine (circ_any L2 gb (w.heap.size + 1) (w.heap.size + 1) a2 b2 21 _ HL.out.cl HL.out.gr).mono ?_; rintro e w7b ⟨r, rfl, hr, hb⟩; obtain rfl : r = true := (hr.trans HWy.out.2).2 (by first | trivial | rfl); replace HL := hide (HL.out.below hb); replace HM := hide (HM.out.below hb); replace HV17b := hide (HV17b.out.below hb); replace HV21b := hide (HV21b.out.below hb); clear hb hr))
    have c0 : w7b.cell? ⟨g17, 0, none⟩ = some (.int .i64 2) := by rw [← hi2]; exact HV17b.out.1 0 _ rfl
    have c1 : w7b.cell? ⟨g21, 2, none⟩ = some (.int .i64 21) := HV21b.out.1 2 _ rfl
    go_wp2_with (first
      | ((with_reducible refine wpList_update_new ?_ ?_ ?_ (.tmp 88) (.tmp 93) (.const (.bool true)) ?_ m (.agg #[.int .i64 2, .int .i64 21, .int .i64 14]) (.bool true) [((.agg #[.int .i64 1, .int .i64 11, .int .i64 14]), .bool true)] ?_ ?_ ?_ Tryz.underlying152 HM.out (check_find _ _ _) noKey_find ?_); (focus rfl); (focus rfl); (focus rfl); (focus rfl); (focus rfl); (focus rfl); (focus rfl); intro V28b hmp hT; clear c0 c1; replace HM : Hid (MapAt V28b m [((.agg #[.int .i64 1, .int .i64 11, .int .i64 14]), .bool true), ((.agg #[.int .i64 2, .int .i64 21, .int .i64 14]), .bool true)]) := hide hmp; replace HL := hide (HL.out.but hT Hm.out); replace HV17b := hide (HV17b.out.but hT Hg17.out); clear hmp hT))
    rw [rounds_succ]
    have c0 : V28b.cell? ⟨g17, 0, none⟩ = some (.int .i64 2) := by rw [← hi2]; exact HV17b.out.1 0 _ rfl
    go_upto_region 31 with (first
      | ((with_reducible refine wpList_load_mid ?_ 48 (.tmp 3) ?_ (w.heap.size) (0) ?_ (pgL b) _ ?_ Tryz.underlying48 ?_ ?_ ?_); (focus rfl); (focus rfl); (focus rfl); (focus exact HL.out.p.whole); (focus rfl); (focus kernel_rfl); simp only [pgL])
      | (go_at_call 69; refine (Hf2.out _ HL.out.bl).mono ?_; rintro e w9b ⟨rfl, hb⟩; clear c0; replace HL := hide (HL.out.below hb); replace HM := hide (HM.out.below hb); replace HV17b := hide (HV17b.out.below hb); clear hb)
      | ((with_reducible refine wpList_store_new ?_ ?_ 83 (.tmp 22) (.tmp 100) ?_ (dnL d2) ?_ ?_ ?_ ?_ ?_ ?_); (focus rfl); (focus rfl); (focus rfl); (focus rfl); (focus rfl); (focus rfl); (focus kernel_rfl); (focus exact dnL_one); intro V22b hV22b hbV22b; have HV22b := hide hV22b; have HbV22b := hide hbV22b; clear hV22b hbV22b; replace HL := hide (HL.out.below HbV22b.out); replace HM := hide (HM.out.below HbV22b.out); replace HV17b := hide (HV17b.out.below HbV22b.out)))
    have c8 : V22b.cell? ⟨g17, 8, none⟩ = some (.int .i64 0) := HV17b.out.1 8 _ rfl
    go_wp2_with fail
    clear c8 HV17b HV21b Hg17
    rw [rounds_succ]
    go_wp2_with (first
      | (go_at_call 78; refine (fkeys_fn m _).mono ?_; rintro e w10 ⟨rfl, hbk, hb⟩; replace HL := hide (HL.out.below hb); replace HM := hide (HM.out.below hb); have HK := hide hbk; clear hbk hb)
      | (go_at_call 77; refine (sorted_any _ m [(1, 11, 14), (2, 21, 14)] (by simp) _ HK.out.2.2 (HK.out.1 0 _ rfl) HM.out).mono ?_; rintro e w11 ⟨A, cF, rs, rfl, hpm, hso, hfa, hb⟩; have Hpm := hide hpm; have Hso := hide hso; have Hfa := hide hfa; have Hbe := hide hb; clear hpm hso hfa hb))
    go_ret
    have hrs := tsorted_two Hpm.out Hso.out (by unfold Tlt; simp)
    subst hrs
    refine ⟨A, cF, rfl, fun _ => ?_, HL.out.bl.trans (Hbe.out.mono HL.out.bl.size)⟩
    obtain ⟨h, h1, h2, h3⟩ := Hfa.out (by simp)
    exact ⟨h, h1, Nat.le_trans HL.out.bl.size h2, h3⟩


end Go.Proofs.YthhfakkfdohcpaaGreat
