/- shape.Order at the definitions of the examples. No condition. -/
import Derived.Test.YthhfakkfdohcpaaGreatM22
namespace Go.Proofs.YthhfakkfdohcpaaGreat
open Go.RowKit Go.ChangeMaps Go.MapKept
theorem BoxAt.lt0 {W : World} {g : Nat} {vs : List Value} (h : BoxAt W g vs) : g < W.heap.size := h.2.2
theorem wpList_update_new {P0 : Program} (hP : P0 = Tryz.prog) {ops : Array Oper} {rest : List Oper} {o : Oper} {a : Act} {w : World} {Q : Exit → Act → World → Prop} (hg : o.guard = none) (hd : o.dst = none) {T Kt Et : TypeId} (x y z : Operand) (ho : o.op = .mapUpdate T x y z)
    (m : Nat) (k v : Value) (l : List (Value × Value)) (hx : a.eval x = .map (some m)) (hy : a.eval y = k) (hz : a.eval z = v) (ht : Tryz.prog.underlying T = some (.map Kt Et)) (h : MapAt w m l)
    (hck : ∀ w, (Instr.checkKey false 10000 Kt k).run Tryz.prog w = .ok () w) (hn : NoKey Kt k l)
    (hK : ∀ V, MapAt V m (l ++ [(k, v)]) → But (fun i => i = m) w V → wpList P0 ops Q rest a V) : wpList P0 ops Q (o :: rest) a w := by
  subst hP
  refine wpList_plain hg fun K' hK' => ?_
  have hrun := run_update_new (v := v) ht h hck hn
  unfold Oper.wp
  simp only [execOp, ho, hx, hy, hz, Sem.run_bind, Result.andThen, hrun, Sem.run_pure]
  show K' (a.put o.dst undef) _
  rw [hd]
  exact hK' _ _ (hK _ (putMap_at h) (putMap_but _ h))
theorem finds_12_2 : FindsI [enI 1 0, enI 2 1] 2 (some (1, .bool true)) := findsI_of _ _ _ rfl
theorem int_one {a : Int} : ∀ u ∈ [Value.int .i64 a], u.oneCell' = true := by
  intro u hu
  simp only [List.mem_singleton] at hu
  subst hu
  rfl
theorem noKey_2 : NoKey 3 (.int .i64 2) [(.int .i64 1, .bool true)] := noKey_int Tryz.underlying3 2 _ (by intro p hp; simp only [List.mem_singleton] at hp; subst hp; exact ⟨1, rfl, by decide⟩)
set_option maxRecDepth 100000 in
set_option maxHeartbeats 16000000 in
theorem order_any (b : Nat → Nat) (d1 d2 : Dn) (h1 : d1.id = 1) (h2 : d2.id = 2) (ss1 ss2 : List St) (hl1 : ss1.length = 4) (hl2 : ss2.length = 4) (hc1 : clF ss1 = []) (hc2 : clF ss2 = []) (w : World) (hD : DefsAt w (b 5) d1 d2) (hB1 : BodyAt w d1.sb ss1) (hB2 : BodyAt w d2.sb ss2) :
    Calls Tryz.prog 35 #[.agg (pgL b).toArray] w fun e w' => ∃ g c, e = .returned (.slice (some ⟨g, 0, none⟩) 2 c) ∧ BoxAt w' g [.int .i64 1, .int .i64 2] ∧ w.heap.size ≤ g ∧ Below w.heap.size w w' := by
  have hk0 : ∀ W, (Instr.makeMap 92 none).run Tryz.prog W = .ok (.map (some W.heap.size)) (W.alloc (.map #[] 0)) := fun _ => by kernel_rfl
  have HLT : Hid (b 5 < w.heap.size ∧ d1.sb < w.heap.size ∧ d2.sb < w.heap.size) := hide ⟨BoxAt.lt0 hD, BoxAt.lt0 hB1, BoxAt.lt0 hB2⟩
  have HD := hide hD; clear hD
  have HBa := hide hB1; clear hB1
  have HBb := hide hB2; clear hB2
  go_enter Tryz.func35, Tryz.ntmps35
  simp only [pgL]
  go_upto_region 1 with (fail)
  obtain ⟨W, hW⟩ : ∃ V, V = w.alloc (.cells (pgL b).toArray 48) := ⟨_, rfl⟩
  have hb1 := BoxAt.new w (pgL b) 48
  have hbW : Below w.heap.size w (w.alloc (.cells (pgL b).toArray 48)) := (Below.refl _ w).alloc (Nat.le_refl _) _
  rw [← hW] at hb1 hbW
  simp only [pgL] at hW
  rw [← hW]
  clear hW
  have HP := hide hb1
  have HW := hide hbW
  have HsW : Hid (w.heap.size < W.heap.size) := hide hb1.2.2
  replace HD := hide (DefsAt.below HD.out hbW)
  replace HBa := hide (BoxAt.below HBa.out hbW)
  replace HBb := hide (BoxAt.below HBb.out hbW)
  clear hb1 hbW
  go_upto_region 3 with (fail)
  have hbX : Below W.heap.size W ((W.alloc (.map #[] 0)).alloc (.cells #[.map (some W.heap.size)] 92)) := ((Below.refl _ W).alloc (Nat.le_refl _) _).alloc (by first | omega | (rw [World.size_alloc]; omega)) _
  have hm0 : MapAt ((W.alloc (.map #[] 0)).alloc (.cells #[.map (some W.heap.size)] 92)) W.heap.size [] := (MapAt.new W).below ((Below.refl _ _).alloc (Nat.le_refl _) _)
  have h4 : BoxAt ((W.alloc (.map #[] 0)).alloc (.cells #[.map (some W.heap.size)] 92)) (W.heap.size + 1) [.map (some W.heap.size)] := by
    have := BoxAt.new (W.alloc (.map #[] 0)) [.map (some W.heap.size)] 92
    rwa [World.size_alloc] at this
  obtain ⟨X, hX⟩ : ∃ V, V = (W.alloc (.map #[] 0)).alloc (.cells #[.map (some W.heap.size)] 92) := ⟨_, rfl⟩
  rw [← hX] at hbX hm0 h4 ⊢
  clear hX
  replace HP := hide (BoxAt.below HP.out hbX); replace HD := hide (DefsAt.below HD.out hbX); replace HBa := hide (BoxAt.below HBa.out hbX); replace HBb := hide (BoxAt.below HBb.out hbX)
  have H4 := hide h4
  have HMP := hide hm0
  replace HW := hide (HW.out.trans (hbX.mono HW.out.size))
  obtain ⟨m, hm⟩ : ∃ q, q = W.heap.size := ⟨_, rfl⟩
  rw [← hm] at H4 HMP HsW ⊢
  have Hne : Hid (w.heap.size < m ∧ b 5 < m ∧ d1.sb < m ∧ d2.sb < m ∧ m + 1 < X.heap.size) := hide (by have h1 := HsW.out; have h2 := HLT.out; have h5 := H4.out.2.2; omega)
  clear hm hbX hm0 h4
  have q8 : X.cell? ⟨w.heap.size, 8, none⟩ = some (.slice (some ⟨b 5, 0, none⟩) 2 2) := HP.out.1 8 _ rfl
  go_upto_block 0 with (fail)
  clear q8
  go_wp2_with fail
  refine wp_loop_rounds 3 ?_
  rw [rounds_succ]
  go_wp2_with (first
    | ((with_reducible refine wpList_load_mid ?_ 83 (.tmp 15) ?_ (b 5) (0) ?_ (dnL d1) _ ?_ Tryz.underlying83 ?_ ?_ ?_); (focus rfl); (focus rfl); (focus rfl); (focus exact BoxAt.sub HD.out 0 (dnL d1) rfl); (focus rfl); (focus kernel_rfl))
    | ((with_reducible refine wpList_store_new ?_ ?_ 83 (.tmp 6) (.tmp 16) ?_ (dnL d1) ?_ ?_ ?_ ?_ ?_ ?_); (focus rfl); (focus rfl); (focus rfl); (focus rfl); (focus rfl); (focus rfl); (focus kernel_rfl); (focus exact dnL_one); intro V1 hV1 hbV1; have HV1 := hide hV1; have HbV1 := hide hbV1; clear hV1 hbV1; replace HP := hide (BoxAt.below HP.out HbV1.out); replace H4 := hide (BoxAt.below H4.out HbV1.out); replace HD := hide (DefsAt.below HD.out HbV1.out); replace HBa := hide (BoxAt.below HBa.out HbV1.out); replace HBb := hide (BoxAt.below HBb.out HbV1.out); replace HMP := hide (MapAt.below HMP.out HbV1.out); replace HW := hide (HW.out.trans (HbV1.out.mono HW.out.size)); have qm : V1.cell? ⟨m + 1, 0, none⟩ = some (.map (some m)) := H4.out.1 0 _ rfl; have qi : V1.cell? ⟨X.heap.size, 0, none⟩ = some (.int .i64 1) := by rw [← h1]; exact HV1.out.1 0 _ rfl)
    | ((with_reducible refine wpList_update_new ?_ ?_ ?_ (.tmp 17) (.tmp 19) (.const (.bool true)) ?_ m (.int .i64 1) (.bool true) [] ?_ ?_ ?_ Tryz.underlying92 HMP.out (check_int _) (noKey_nil Tryz.underlying3 _) ?_); (focus rfl); (focus rfl); (focus rfl); (focus rfl); (focus rfl); (focus rfl); (focus rfl); intro V2 hmp hT; replace HMP : Hid (MapAt V2 m [(.int .i64 1, .bool true)]) := hide hmp; replace HP := hide (BoxAt.but HP.out hT (by have h1 := Hne.out; have h2 := HsW.out; omega)); replace H4 := hide (BoxAt.but H4.out hT (by have h1 := Hne.out; have h2 := HsW.out; omega)); replace HD := hide (BoxAt.but HD.out hT (by have h1 := Hne.out; have h2 := HsW.out; omega)); replace HBa := hide (BoxAt.but HBa.out hT (by have h1 := Hne.out; have h2 := HsW.out; omega)); replace HBb := hide (BoxAt.but HBb.out hT (by have h1 := Hne.out; have h2 := HsW.out; omega)); replace HW := hide (HW.out.trans (hT.below HW.out.size (fun k hk => by have := Hne.out; omega))); clear hmp hT qm qi))
  rw [rounds_succ]
  go_wp2_with (first
    | ((with_reducible refine wpList_load_mid ?_ 83 (.tmp 15) ?_ (b 5) (12) ?_ (dnL d2) _ ?_ Tryz.underlying83 ?_ ?_ ?_); (focus rfl); (focus rfl); (focus rfl); (focus exact BoxAt.sub HD.out 12 (dnL d2) rfl); (focus rfl); (focus kernel_rfl))
    | ((with_reducible refine wpList_store_new ?_ ?_ 83 (.tmp 6) (.tmp 16) ?_ (dnL d2) ?_ ?_ ?_ ?_ ?_ ?_); (focus rfl); (focus rfl); (focus rfl); (focus rfl); (focus rfl); (focus rfl); (focus kernel_rfl); (focus exact dnL_one); intro V3 hV3 hbV3; have HV3 := hide hV3; have HbV3 := hide hbV3; clear hV3 hbV3; replace HP := hide (BoxAt.below HP.out HbV3.out); replace H4 := hide (BoxAt.below H4.out HbV3.out); replace HD := hide (DefsAt.below HD.out HbV3.out); replace HBa := hide (BoxAt.below HBa.out HbV3.out); replace HBb := hide (BoxAt.below HBb.out HbV3.out); replace HMP := hide (MapAt.below HMP.out HbV3.out); replace HW := hide (HW.out.trans (HbV3.out.mono HW.out.size)); have qm : V3.cell? ⟨m + 1, 0, none⟩ = some (.map (some m)) := H4.out.1 0 _ rfl; have qi : V3.cell? ⟨V2.heap.size, 0, none⟩ = some (.int .i64 2) := by rw [← h2]; exact HV3.out.1 0 _ rfl)
    | ((with_reducible refine wpList_update_new ?_ ?_ ?_ (.tmp 17) (.tmp 19) (.const (.bool true)) ?_ m (.int .i64 2) (.bool true) [(.int .i64 1, .bool true)] ?_ ?_ ?_ Tryz.underlying92 HMP.out (check_int _) noKey_2 ?_); (focus rfl); (focus rfl); (focus rfl); (focus rfl); (focus rfl); (focus rfl); (focus rfl); intro V4 hmp hT; replace HMP : Hid (MapAt V4 m [(.int .i64 1, .bool true), (.int .i64 2, .bool true)]) := hide hmp; replace HP := hide (BoxAt.but HP.out hT (by have h1 := Hne.out; have h2 := HsW.out; omega)); replace H4 := hide (BoxAt.but H4.out hT (by have h1 := Hne.out; have h2 := HsW.out; omega)); replace HD := hide (BoxAt.but HD.out hT (by have h1 := Hne.out; have h2 := HsW.out; omega)); replace HBa := hide (BoxAt.but HBa.out hT (by have h1 := Hne.out; have h2 := HsW.out; omega)); replace HBb := hide (BoxAt.but HBb.out hT (by have h1 := Hne.out; have h2 := HsW.out; omega)); replace HW := hide (HW.out.trans (hT.below HW.out.size (fun k hk => by have := Hne.out; omega))); clear hmp hT qm qi))
  rw [rounds_succ]
  go_upto_region 8 with (fail)
  go_upto_block 2 with (fail)
  obtain ⟨Y, hY⟩ : ∃ V : World, V = V4 := ⟨_, rfl⟩
  have HM : Hid (ObjAt V4 m [enI 1 0, enI 2 1] 2) := hide HMP.out
  have HO : Hid (V4.ownsRow Y.heap.size 3 1 (.slice none 0 0) 0 []) := hide (own_nil _ _ _ _)
  have HsY : Hid (w.heap.size ≤ Y.heap.size ∧ m + 1 < Y.heap.size) := hide (by rw [hY]; exact ⟨HW.out.size, H4.out.2.2⟩)
  have Hsz : Hid (Y.heap.size ≤ V4.heap.size) := hide (by rw [hY]; exact Nat.le_refl _)
  clear hY
  have q8 : V4.cell? ⟨w.heap.size, 8, none⟩ = some (.slice (some ⟨b 5, 0, none⟩) 2 2) := HP.out.1 8 _ rfl
  go_wp2_with fail
  refine wp_loop_rounds 4 ?_
  rw [rounds_succ]
  go_upto_region 13 with (first
    | (go_at_call 68; refine (ixd d1 d2 ss1 ss2 hl1 hl2 hc1 hc2 (b 5) (m + 1) m [enI 1 0, enI 2 1] 2 true true 0 1 _ (by rw [h1]; exact finds_12_1) (by rw [h2]; exact finds_12_2) HD.out HM.out H4.out HBa.out HBb.out).mono ?_; rintro e wa1 ⟨rfl, hb⟩; simp only [if_true]; clear q8; replace HP := hide (BoxAt.below HP.out hb); replace H4 := hide (BoxAt.below H4.out hb); replace HD := hide (DefsAt.below HD.out hb); replace HBa := hide (BoxAt.below HBa.out hb); replace HBb := hide (BoxAt.below HBb.out hb); replace HM := hide (ObjAt.below HM.out hb); replace HW := hide (HW.out.trans (hb.mono HW.out.size)); replace HO := hide (own_below HO.out hb); replace Hsz : Hid (Y.heap.size ≤ wa1.heap.size) := hide (by have := Hsz.out; have := hb.size; omega); clear hb; have q8 : wa1.cell? ⟨w.heap.size, 8, none⟩ = some (.slice (some ⟨b 5, 0, none⟩) 2 2) := HP.out.1 8 _ rfl; have qd : wa1.cell? ⟨b 5, 0, none⟩ = some (.int .i64 1) := by rw [← h1]; exact HD.out.1 0 _ rfl)
    | ((with_reducible refine wpList_buildSlice_one ?_ ?_ 42 3 1 8 elemInt (.tmp 35) ?_ (.int .i64 1) [.int .i64 1] ?_ ?_ ?_ ?_ ?_); (focus rfl); (focus rfl); (focus rfl); (focus rfl); (focus rfl); (focus rfl); (focus decide); intro gb Vb1 hVb hgVb hbVb; have HGB := hide hVb; replace HP := hide (BoxAt.below HP.out hbVb); replace H4 := hide (BoxAt.below H4.out hbVb); replace HD := hide (DefsAt.below HD.out hbVb); replace HBa := hide (BoxAt.below HBa.out hbVb); replace HBb := hide (BoxAt.below HBb.out hbVb); replace HM := hide (ObjAt.below HM.out hbVb); replace HW := hide (HW.out.trans (hbVb.mono HW.out.size)); replace HO := hide (own_below HO.out hbVb); replace Hsz : Hid (Y.heap.size ≤ Vb1.heap.size) := hide (by have := Hsz.out; have := hbVb.size; omega); clear hVb hgVb hbVb q8 qd)
    | ((with_reducible refine wpList_append_to ?_ ?_ (.tmp 29) (.tmp 36) 42 3 1 8 elemInt ?_ Y.heap.size _ 0 [] ?_ HO.out gb 1 1 [.int .i64 1] ?_ ?_ ?_ ?_ ?_ ?_ ?_ ?_); (focus rfl); (focus rfl); (focus rfl); (focus rfl); (focus rfl); (focus exact HGB.out); (focus rfl); (focus exact int_one); (focus omega); (focus omega); (focus exact Hsz.out); intro gn1 cn1 Vc1 hap; have hbn := hap.but.below Hsz.out (fun k hk => (HO.out.lt k hk).1); have hT : But (fun k => Y.heap.size ≤ k) Vb1 Vc1 := ⟨hbn.os, hbn.tape, hbn.output, hbn.size, fun k _ hs => hbn.block k (by omega)⟩; replace HP := hide (BoxAt.but HP.out hT (by have h1 := Hne.out; have h2 := HsY.out; have h3 := HsW.out; omega)); replace H4 := hide (BoxAt.but H4.out hT (by have h1 := Hne.out; have h2 := HsY.out; have h3 := HsW.out; omega)); replace HD := hide (BoxAt.but HD.out hT (by have h1 := Hne.out; have h2 := HsY.out; have h3 := HsW.out; omega)); replace HBa := hide (BoxAt.but HBa.out hT (by have h1 := Hne.out; have h2 := HsY.out; have h3 := HsW.out; omega)); replace HBb := hide (BoxAt.but HBb.out hT (by have h1 := Hne.out; have h2 := HsY.out; have h3 := HsW.out; omega)); replace HM := hide (HM.out.but hT (by have h1 := Hne.out; have h2 := HsY.out; omega)); replace HW := hide (HW.out.trans (hbn.mono HsY.out.1)); replace HO : Hid (Vc1.ownsRow Y.heap.size 3 1 (.slice (some ⟨gn1, 0, none⟩) 1 cn1) 1 [.int .i64 1]) := hide hap.own; replace Hsz : Hid (Y.heap.size ≤ Vc1.heap.size) := hide (by have := Hsz.out; have := hbn.size; omega); clear hap hbn hT))
  refine wp_region_held_drew (S := fun w' => BoxAt w' (m + 1) [.map (some m)] ∧ BoxAt w' w.heap.size (pgL b) ∧ DefsAt w' (b 5) d1 d2) (by kernel_rfl) ?_ (fun hHeld => ?_)
  · exact ⟨H4.out.below (Below.refl _ _).drew, HP.out.below (Below.refl _ _).drew, DefsAt.below HD.out (Below.refl _ _).drew⟩
  generalize hw0 : World.drew Vc1 = z1 at hHeld ⊢
  have HB0 : Hid (Below Vc1.heap.size Vc1 z1) := hide (by rw [← hw0]; exact (Below.refl _ Vc1).drew)
  replace HP := hide (BoxAt.below HP.out HB0.out); replace H4 := hide (BoxAt.below H4.out HB0.out); replace HD := hide (DefsAt.below HD.out HB0.out); replace HBa := hide (BoxAt.below HBa.out HB0.out); replace HBb := hide (BoxAt.below HBb.out HB0.out); replace HM := hide (ObjAt.below HM.out HB0.out)
  replace HO := hide (own_below HO.out HB0.out)
  replace HW := hide (HW.out.trans (HB0.out.mono HW.out.size))
  replace Hsz : Hid (Y.heap.size ≤ z1.heap.size) := hide (by have := Hsz.out; have := HB0.out.size; omega)
  clear hw0
  refine take_as 0 (some 38) (v := ?_) rfl rfl (by kernel_rfl) (by kernel_rfl) (by kernel_rfl) (fun _ _ _ h => h) (Or.inl ⟨by rfl, ?_⟩) (by assumption) ?_
  rotate_left 1
  · intro w2 hSw
    have hl := hSw.1.1 0 _ rfl
    go_simp
    try with_reducible rfl
  try simp only [Act.put, List.setIfInBounds_toArray, List.set_cons_zero, List.set_cons_succ]
  refine take_as 1 (some 39) (v := ?_) rfl rfl (by kernel_rfl) (by kernel_rfl) (by kernel_rfl) (fun _ _ _ h => h) (Or.inl ⟨by rfl, ?_⟩) (by assumption) ?_
  rotate_left 1
  · intro w2 hSw
    go_simp
    try with_reducible rfl
  try simp only [Act.put, List.setIfInBounds_toArray, List.set_cons_zero, List.set_cons_succ]
  refine take_as 2 (some 40) (v := ?_) rfl rfl (by kernel_rfl) (by kernel_rfl) (by kernel_rfl) (fun _ _ _ h => h) (Or.inl ⟨by rfl, ?_⟩) (by assumption) ?_
  rotate_left 1
  · intro w2 hSw
    have hl := hSw.2.1.1 8 _ rfl
    go_simp
    try with_reducible rfl
  try simp only [Act.put, List.setIfInBounds_toArray, List.set_cons_zero, List.set_cons_succ]
  refine take_as 3 (some 41) (v := ?_) rfl rfl (by kernel_rfl) (by kernel_rfl) (by kernel_rfl) (fun _ _ _ h => h) (Or.inl ⟨by rfl, ?_⟩) (by assumption) ?_
  rotate_left 1
  · intro w2 hSw
    go_simp
    try with_reducible rfl
  try simp only [Act.put, List.setIfInBounds_toArray, List.set_cons_zero, List.set_cons_succ]
  refine take_as 4 (some 42) (v := ?_) rfl rfl (by kernel_rfl) (by kernel_rfl) (by kernel_rfl) (fun _ _ _ h => h) (Or.inl ⟨by rfl, ?_⟩) (by assumption) ?_
  rotate_left 1
  · intro w2 hSw
    go_simp
    try with_reducible rfl
  try simp only [Act.put, List.setIfInBounds_toArray, List.set_cons_zero, List.set_cons_succ]
  refine take_as 5 (some 43) (v := ?_) rfl rfl (by kernel_rfl) (by kernel_rfl) (by kernel_rfl) (fun _ _ _ h => h) (Or.inl ⟨by rfl, ?_⟩) (by assumption) ?_
  rotate_left 1
  · intro w2 hSw
    go_simp
    try with_reducible rfl
  try simp only [Act.put, List.setIfInBounds_toArray, List.set_cons_zero, List.set_cons_succ]
  refine take_as 6 (some 44) (v := ?_) rfl rfl (by kernel_rfl) (by kernel_rfl) (by kernel_rfl) (fun _ _ _ h => h) (Or.inl ⟨by rfl, ?_⟩) (by assumption) ?_
  rotate_left 1
  · intro w2 hSw
    have hl : w2.cell? ⟨b 5, 0, none⟩ = some (.int .i64 1) := by rw [← h1]; exact hSw.2.2.1 0 _ rfl
    go_simp
    try with_reducible rfl
  try simp only [Act.put, List.setIfInBounds_toArray, List.set_cons_zero, List.set_cons_succ]
  refine wpAnyH_ready (rs := [7]) (by kernel_rfl) (by simp) ?_
  refine AllReadyH.cons rfl (fun K hK => ?_) ?_
  · refine step_delete_obj rfl rfl (.tmp 38) (.tmp 44) rfl m [enI 1 0, enI 2 1] 2 1 0 (.bool true) rfl rfl HM.out finds_12_1 (by decide) (fun w1 hM hT => ?_)
    replace HP := hide (BoxAt.but HP.out hT (by have h1 := Hne.out; have h2 := HsW.out; omega)); replace H4 := hide (BoxAt.but H4.out hT (by have h1 := Hne.out; have h2 := HsW.out; omega)); replace HD := hide (BoxAt.but HD.out hT (by have h1 := Hne.out; have h2 := HsW.out; omega)); replace HBa := hide (BoxAt.but HBa.out hT (by have h1 := Hne.out; have h2 := HsW.out; omega)); replace HBb := hide (BoxAt.but HBb.out hT (by have h1 := Hne.out; have h2 := HsW.out; omega))
    replace HM : Hid (ObjAt w1 m [enI 2 1] 2) := hide hM
    replace HO := hide (own_but HO.out hT (fun k hk e => by have h1 := Hne.out; have h2 := HsY.out; omega))
    replace HW := hide (HW.out.trans (hT.below HW.out.size (fun k hk => by have h1 := Hne.out; omega)))
    replace Hsz : Hid (Y.heap.size ≤ w1.heap.size) := hide (by have := Hsz.out; have := hT.size; omega)
    have HBx := trivial
    have HB1 := trivial
    clear hM hT
    refine hK.out _ _ ?_ (fun hHeld => ?_)
    · exact ⟨H4.out, HP.out, HD.out⟩
    clear hK K
    try simp only [Act.put, List.setIfInBounds_toArray, List.set_cons_zero, List.set_cons_succ]
    refine wpAnyH_done (by kernel_rfl) ?_ _
    go_wp2_with fail
    have q8 : w1.cell? ⟨w.heap.size, 8, none⟩ = some (.slice (some ⟨b 5, 0, none⟩) 2 2) := HP.out.1 8 _ rfl
    rw [rounds_succ]
    go_upto_region 13 with (first
      | (go_at_call 68; refine (ixd d1 d2 ss1 ss2 hl1 hl2 hc1 hc2 (b 5) (m + 1) m [enI 2 1] 2 false true 0 0 _ (by rw [h1]; exact finds_2_1) (by rw [h2]; exact finds_2_2) HD.out HM.out H4.out HBa.out HBb.out).mono ?_; rintro e wa2 ⟨rfl, hb⟩; simp only [if_true, Bool.false_eq_true, if_false]; clear q8; replace HP := hide (BoxAt.below HP.out hb); replace H4 := hide (BoxAt.below H4.out hb); replace HD := hide (DefsAt.below HD.out hb); replace HBa := hide (BoxAt.below HBa.out hb); replace HBb := hide (BoxAt.below HBb.out hb); replace HM := hide (ObjAt.below HM.out hb); replace HW := hide (HW.out.trans (hb.mono HW.out.size)); replace HO := hide (own_below HO.out hb); replace Hsz : Hid (Y.heap.size ≤ wa2.heap.size) := hide (by have := Hsz.out; have := hb.size; omega); clear hb; have q8 : wa2.cell? ⟨w.heap.size, 8, none⟩ = some (.slice (some ⟨b 5, 0, none⟩) 2 2) := HP.out.1 8 _ rfl; have qd : wa2.cell? ⟨b 5, 12, none⟩ = some (.int .i64 2) := by rw [← h2]; exact HD.out.1 12 _ rfl)
      | ((with_reducible refine wpList_buildSlice_one ?_ ?_ 42 3 1 8 elemInt (.tmp 35) ?_ (.int .i64 2) [.int .i64 2] ?_ ?_ ?_ ?_ ?_); (focus rfl); (focus rfl); (focus rfl); (focus rfl); (focus rfl); (focus rfl); (focus decide); intro gb Vb2 hVb hgVb hbVb; have HGB := hide hVb; replace HP := hide (BoxAt.below HP.out hbVb); replace H4 := hide (BoxAt.below H4.out hbVb); replace HD := hide (DefsAt.below HD.out hbVb); replace HBa := hide (BoxAt.below HBa.out hbVb); replace HBb := hide (BoxAt.below HBb.out hbVb); replace HM := hide (ObjAt.below HM.out hbVb); replace HW := hide (HW.out.trans (hbVb.mono HW.out.size)); replace HO := hide (own_below HO.out hbVb); replace Hsz : Hid (Y.heap.size ≤ Vb2.heap.size) := hide (by have := Hsz.out; have := hbVb.size; omega); clear hVb hgVb hbVb q8 qd)
      | ((with_reducible refine wpList_append_to ?_ ?_ (.tmp 29) (.tmp 36) 42 3 1 8 elemInt ?_ Y.heap.size _ 1 [.int .i64 1] ?_ HO.out gb 1 1 [.int .i64 2] ?_ ?_ ?_ ?_ ?_ ?_ ?_ ?_); (focus rfl); (focus rfl); (focus rfl); (focus rfl); (focus rfl); (focus exact HGB.out); (focus rfl); (focus exact int_one); (focus omega); (focus omega); (focus exact Hsz.out); intro gn2 cn2 Vc2 hap; have hbn := hap.but.below Hsz.out (fun k hk => (HO.out.lt k hk).1); have hT : But (fun k => Y.heap.size ≤ k) Vb2 Vc2 := ⟨hbn.os, hbn.tape, hbn.output, hbn.size, fun k _ hs => hbn.block k (by omega)⟩; replace HP := hide (BoxAt.but HP.out hT (by have h1 := Hne.out; have h2 := HsY.out; have h3 := HsW.out; omega)); replace H4 := hide (BoxAt.but H4.out hT (by have h1 := Hne.out; have h2 := HsY.out; have h3 := HsW.out; omega)); replace HD := hide (BoxAt.but HD.out hT (by have h1 := Hne.out; have h2 := HsY.out; have h3 := HsW.out; omega)); replace HBa := hide (BoxAt.but HBa.out hT (by have h1 := Hne.out; have h2 := HsY.out; have h3 := HsW.out; omega)); replace HBb := hide (BoxAt.but HBb.out hT (by have h1 := Hne.out; have h2 := HsY.out; have h3 := HsW.out; omega)); replace HM := hide (HM.out.but hT (by have h1 := Hne.out; have h2 := HsY.out; omega)); replace HW := hide (HW.out.trans (hbn.mono HsY.out.1)); replace HO : Hid (Vc2.ownsRow Y.heap.size 3 1 (.slice (some ⟨gn2, 0, none⟩) 2 cn2) 2 [.int .i64 1, .int .i64 2]) := hide hap.own; replace Hsz : Hid (Y.heap.size ≤ Vc2.heap.size) := hide (by have := Hsz.out; have := hbn.size; omega); clear hap hbn hT))
    refine wp_region_held_drew (S := fun w' => BoxAt w' (m + 1) [.map (some m)] ∧ BoxAt w' w.heap.size (pgL b) ∧ DefsAt w' (b 5) d1 d2) (by kernel_rfl) ?_ (fun hHeld => ?_)
    · exact ⟨H4.out.below (Below.refl _ _).drew, HP.out.below (Below.refl _ _).drew, DefsAt.below HD.out (Below.refl _ _).drew⟩
    generalize hw0 : World.drew Vc2 = z2 at hHeld ⊢
    have HB0 : Hid (Below Vc2.heap.size Vc2 z2) := hide (by rw [← hw0]; exact (Below.refl _ Vc2).drew)
    replace HP := hide (BoxAt.below HP.out HB0.out); replace H4 := hide (BoxAt.below H4.out HB0.out); replace HD := hide (DefsAt.below HD.out HB0.out); replace HBa := hide (BoxAt.below HBa.out HB0.out); replace HBb := hide (BoxAt.below HBb.out HB0.out); replace HM := hide (ObjAt.below HM.out HB0.out)
    replace HO := hide (own_below HO.out HB0.out)
    replace HW := hide (HW.out.trans (HB0.out.mono HW.out.size))
    replace Hsz : Hid (Y.heap.size ≤ z2.heap.size) := hide (by have := Hsz.out; have := HB0.out.size; omega)
    clear hw0
    refine take_as 0 (some 38) (v := ?_) rfl rfl (by kernel_rfl) (by kernel_rfl) (by kernel_rfl) (fun _ _ _ h => h) (Or.inl ⟨by rfl, ?_⟩) (by assumption) ?_
    rotate_left 1
    · intro w2 hSw
      have hl := hSw.1.1 0 _ rfl
      go_simp
      try with_reducible rfl
    try simp only [Act.put, List.setIfInBounds_toArray, List.set_cons_zero, List.set_cons_succ]
    refine take_as 1 (some 39) (v := ?_) rfl rfl (by kernel_rfl) (by kernel_rfl) (by kernel_rfl) (fun _ _ _ h => h) (Or.inl ⟨by rfl, ?_⟩) (by assumption) ?_
    rotate_left 1
    · intro w2 hSw
      go_simp
      try with_reducible rfl
    try simp only [Act.put, List.setIfInBounds_toArray, List.set_cons_zero, List.set_cons_succ]
    refine take_as 2 (some 40) (v := ?_) rfl rfl (by kernel_rfl) (by kernel_rfl) (by kernel_rfl) (fun _ _ _ h => h) (Or.inl ⟨by rfl, ?_⟩) (by assumption) ?_
    rotate_left 1
    · intro w2 hSw
      have hl := hSw.2.1.1 8 _ rfl
      go_simp
      try with_reducible rfl
    try simp only [Act.put, List.setIfInBounds_toArray, List.set_cons_zero, List.set_cons_succ]
    refine take_as 3 (some 41) (v := ?_) rfl rfl (by kernel_rfl) (by kernel_rfl) (by kernel_rfl) (fun _ _ _ h => h) (Or.inl ⟨by rfl, ?_⟩) (by assumption) ?_
    rotate_left 1
    · intro w2 hSw
      go_simp
      try with_reducible rfl
    try simp only [Act.put, List.setIfInBounds_toArray, List.set_cons_zero, List.set_cons_succ]
    refine take_as 4 (some 42) (v := ?_) rfl rfl (by kernel_rfl) (by kernel_rfl) (by kernel_rfl) (fun _ _ _ h => h) (Or.inl ⟨by rfl, ?_⟩) (by assumption) ?_
    rotate_left 1
    · intro w2 hSw
      go_simp
      try with_reducible rfl
    try simp only [Act.put, List.setIfInBounds_toArray, List.set_cons_zero, List.set_cons_succ]
    refine take_as 5 (some 43) (v := ?_) rfl rfl (by kernel_rfl) (by kernel_rfl) (by kernel_rfl) (fun _ _ _ h => h) (Or.inl ⟨by rfl, ?_⟩) (by assumption) ?_
    rotate_left 1
    · intro w2 hSw
      go_simp
      try with_reducible rfl
    try simp only [Act.put, List.setIfInBounds_toArray, List.set_cons_zero, List.set_cons_succ]
    refine take_as 6 (some 44) (v := ?_) rfl rfl (by kernel_rfl) (by kernel_rfl) (by kernel_rfl) (fun _ _ _ h => h) (Or.inl ⟨by rfl, ?_⟩) (by assumption) ?_
    rotate_left 1
    · intro w2 hSw
      have hl : w2.cell? ⟨b 5, 12, none⟩ = some (.int .i64 2) := by rw [← h2]; exact hSw.2.2.1 12 _ rfl
      go_simp
      try with_reducible rfl
    try simp only [Act.put, List.setIfInBounds_toArray, List.set_cons_zero, List.set_cons_succ]
    refine wpAnyH_ready (rs := [7]) (by kernel_rfl) (by simp) ?_
    refine AllReadyH.cons rfl (fun K hK => ?_) ?_
    · refine step_delete_obj rfl rfl (.tmp 38) (.tmp 44) rfl m [enI 2 1] 2 2 0 (.bool true) rfl rfl HM.out finds_2_2 (by decide) (fun w1 hM hT => ?_)
      replace HP := hide (BoxAt.but HP.out hT (by have h1 := Hne.out; have h2 := HsW.out; omega)); replace H4 := hide (BoxAt.but H4.out hT (by have h1 := Hne.out; have h2 := HsW.out; omega)); replace HD := hide (BoxAt.but HD.out hT (by have h1 := Hne.out; have h2 := HsW.out; omega)); replace HBa := hide (BoxAt.but HBa.out hT (by have h1 := Hne.out; have h2 := HsW.out; omega)); replace HBb := hide (BoxAt.but HBb.out hT (by have h1 := Hne.out; have h2 := HsW.out; omega))
      replace HM : Hid (ObjAt w1 m [] 2) := hide hM
      replace HO := hide (own_but HO.out hT (fun k hk e => by have h1 := Hne.out; have h2 := HsY.out; omega))
      replace HW := hide (HW.out.trans (hT.below HW.out.size (fun k hk => by have h1 := Hne.out; omega)))
      replace Hsz : Hid (Y.heap.size ≤ w1.heap.size) := hide (by have := Hsz.out; have := hT.size; omega)
      have HBx := trivial
      have HB1 := trivial
      clear hM hT
      refine hK.out _ _ ?_ (fun hHeld => ?_)
      · exact ⟨H4.out, HP.out, HD.out⟩
      clear hK K
      try simp only [Act.put, List.setIfInBounds_toArray, List.set_cons_zero, List.set_cons_succ]
      refine wpAnyH_done (by kernel_rfl) ?_ _
      go_wp2_with fail
      have q8 : w1.cell? ⟨w.heap.size, 8, none⟩ = some (.slice (some ⟨b 5, 0, none⟩) 2 2) := HP.out.1 8 _ rfl
      rw [rounds_succ]
      go_wp2_with (go_at_call 68; refine (ixd d1 d2 ss1 ss2 hl1 hl2 hc1 hc2 (b 5) (m + 1) m [] 2 false false 0 0 _ (by rw [h1]; exact (finds_nil 1)) (by rw [h2]; exact (finds_nil 2)) HD.out HM.out H4.out HBa.out HBb.out).mono ?_; rintro e wa3 ⟨rfl, hb⟩; simp only [Bool.false_eq_true, if_false]; clear q8; replace HP := hide (BoxAt.below HP.out hb); replace H4 := hide (BoxAt.below H4.out hb); replace HD := hide (DefsAt.below HD.out hb); replace HBa := hide (BoxAt.below HBa.out hb); replace HBb := hide (BoxAt.below HBb.out hb); replace HM := hide (ObjAt.below HM.out hb); replace HW := hide (HW.out.trans (hb.mono HW.out.size)); replace HO := hide (own_below HO.out hb); replace Hsz : Hid (Y.heap.size ≤ wa3.heap.size) := hide (by have := Hsz.out; have := hb.size; omega); clear hb)
      go_ret
      obtain ⟨g, cap, he, hg, hbx, -⟩ := own_box HO.out (by omega)
      cases he
      exact ⟨_, _, rfl, hbx, by have := HW.out; have := HsY.out; omega, HW.out⟩
    exact AllReadyH.nil
  exact AllReadyH.nil

end Go.Proofs.YthhfakkfdohcpaaGreat
/- A set of whole numbers, and a graph: maps of sets. No condition. -/
namespace Go.Proofs.YthhfakkfdohcpaaGreat
open Go.RowKit Go.ChangeMaps Go.MapKept
theorem first_at {k : Int} : ∀ {ks : List Int}, k ∈ ks → ∃ j : Nat, ks[j]? = some k ∧ ∀ i : Nat, i < j → ks[i]? ≠ some k
  | [], h => by simp at h
  | x :: xs, h => by
    by_cases e : x = k
    · exact ⟨0, by simp [e], fun i hi => by omega⟩
    · have h' : k ∈ xs := by
        rcases List.mem_cons.1 h with h | h
        · exact absurd h.symm e
        · exact h
      obtain ⟨j, hj, hf⟩ := first_at h'
      refine ⟨j + 1, by simpa using hj, fun i hi => ?_⟩
      cases i with
      | zero => simpa using e
      | succ i => simpa using hf i (by omega)
theorem modify_same {α : Type} (es : Array α) (j : Nat) (f : α → α) (h : ∀ e, es[j]? = some e → f e = e) : es.modify j f = es := by
  apply Array.ext
  · simp
  · intro i h1 h2
    rw [Array.getElem_modify]
    split
    · rename_i e
      subst e
      exact h _ (Array.getElem?_eq_getElem h2)
    · rfl
/-- A set of whole numbers as it lies. -/
def seL (ks : List Int) : List (Value × Value) := ks.map fun k => (.int .i64 k, .bool true)
def SetAt (W : World) (m : Nat) (ks : List Int) : Prop := MapAt W m (seL ks)
theorem seL_keys (ks : List Int) : (seL ks).map (·.1) = ks.map (Value.int .i64) := by simp [seL]
theorem seL_hit {k : Int} {ks : List Int} (h : k ∈ ks) : ∃ j, HasKey 3 (.int .i64 k) (seL ks) j (.bool true) ∧ ks[j]? = some k := by
  obtain ⟨j, hj, hf⟩ := first_at h
  exact ⟨j, hasKey_ints k _ ks (seL_keys ks) j _ hj hf (by simp [seL, hj]), hj⟩
theorem seL_miss {k : Int} {ks : List Int} (h : k ∉ ks) : NoKey 3 (.int .i64 k) (seL ks) := noKey_ints k _ ks (seL_keys ks) h
def addI (ks : List Int) (k : Int) : List Int := if k ∈ ks then ks else ks ++ [k]
theorem mem_addI {ks : List Int} {k x : Int} : x ∈ addI ks k ↔ x ∈ ks ∨ x = k := by
  unfold addI
  split
  · rename_i h
    constructor
    · exact .inl
    · rintro (h' | rfl)
      · exact h'
      · exact h
  · simp
set_option maxRecDepth 100000 in
theorem run_set_add {W : World} {m : Nat} {ks : List Int} (k : Int) (h : SetAt W m ks) :
    ∃ V, (Instr.mapUpdate 92 (.map (some m)) (.int .i64 k) (.bool true)).run Tryz.prog W = .ok () V ∧ SetAt V m (addI ks k) ∧ But (fun i => i = m) W V := by
  by_cases hk : k ∈ ks
  · obtain ⟨j, hf, hj⟩ := seL_hit hk
    have hg : (getObj m).run Tryz.prog W = .ok (.map (entL (seL ks)).toArray (seL ks).length) W := MapKept.run_getObj_map h
    have hs := fun o => MapKept.run_setObj_map (P := Tryz.prog) (w := W) (r := m) o h
    have hck := check_int k
    have hf := hf W
    have hl : (seL ks)[j]? = some (.int .i64 k, .bool true) := by simp [seL, hj]
    have he : ((entL (seL ks)).toArray[j]?) = some { key := .int .i64 k, val := .bool true, born := j } := by simp [entL_get hl]
    have hkey : (Instr.keyThatStays (((((entL (seL ks)).toArray[j]?)).map (·.key)).getD (.int .i64 k)) (.int .i64 k)).run Tryz.prog W = .ok (.int .i64 k) W := by
      rw [he]
      simp [Instr.keyThatStays, Instr.sameBits]
    have hmod : (entL (seL ks)).toArray.modify j (fun e => { e with key := .int .i64 k, val := .bool true }) = (entL (seL ks)).toArray := modify_same _ _ _ (fun e h' => by rw [he] at h'; cases h'; rfl)
    refine ⟨putMap W m (seL ks), ?_, ?_, putMap_but _ h⟩
    · simp only [Instr.mapUpdate, Sem.run_bind, run_underlying Tryz.underlying92 W, Result.andThen, hg, hck W, hf, hkey, hmod, hs]
      rfl
    · rw [addI, if_pos hk]
      exact putMap_at h
  · refine ⟨_, run_update_new Tryz.underlying92 h (check_int k) (seL_miss hk), ?_, putMap_but _ h⟩
    rw [addI, if_neg hk]
    have : SetAt (putMap W m (seL (ks ++ [k]))) m (ks ++ [k]) := putMap_at h
    simpa [seL] using this
theorem wpList_set_add {P0 : Program} (hP : P0 = Tryz.prog) {ops : Array Oper} {rest : List Oper} {o : Oper} {a : Act} {w : World} {Q : Exit → Act → World → Prop} (hg : o.guard = none) (hd : o.dst = none) (x y z : Operand) (ho : o.op = .mapUpdate 92 x y z)
    (m : Nat) (k : Int) (ks : List Int) (hx : a.eval x = .map (some m)) (hy : a.eval y = .int .i64 k) (hz : a.eval z = .bool true) (h : SetAt w m ks)
    (hK : ∀ V, SetAt V m (addI ks k) → But (fun i => i = m) w V → wpList P0 ops Q rest a V) : wpList P0 ops Q (o :: rest) a w := by
  subst hP
  refine wpList_plain hg fun K' hK' => ?_
  obtain ⟨V, hrun, hV, hT⟩ := run_set_add k h
  unfold Oper.wp
  simp only [execOp, ho, hx, hy, hz, Sem.run_bind, Result.andThen, hrun, Sem.run_pure]
  show K' (a.put o.dst undef) _
  rw [hd]
  exact hK' _ _ (hK V hV hT)
/-- A graph as it lies: a map of sets. -/
def grL (L : List (Int × Nat × List Int)) : List (Value × Value) := L.map fun e => (.int .i64 e.1, .map (some e.2.1))
structure GraphAt (W : World) (B g : Nat) (L : List (Int × Nat × List Int)) : Prop where
  map : MapAt W g (grL L)
  set : ∀ e ∈ L, SetAt W e.2.1 e.2.2
  off : ∀ e ∈ L, e.2.1 ≠ g
  nd : (L.map (·.2.1)).Nodup
  keys : (L.map (·.1)).Nodup
  base : B ≤ g
  bases : ∀ e ∈ L, B ≤ e.2.1
def Edge (L : List (Int × Nat × List Int)) (a b : Int) : Prop := ∃ m ks, (a, m, ks) ∈ L ∧ b ∈ ks
theorem GraphAt.below {W W' : World} {B g : Nat} {L : List (Int × Nat × List Int)} (h : GraphAt W B g L) (hb : Below W.heap.size W W') : GraphAt W' B g L :=
  { h with map := h.map.below hb, set := fun e he => MapAt.below (h.set e he) hb }
theorem grL_keys (L : List (Int × Nat × List Int)) : (grL L).map (·.1) = (L.map (·.1)).map (Value.int .i64) := by simp [grL]
end Go.Proofs.YthhfakkfdohcpaaGreat
