/- The programs of the examples, made. No condition. -/
import Derived.Test.YthhfakkfdohcpaaGreatM31
import Derived.Test.YthhfakkfdohcpaaGreatM17
namespace Go.Proofs.YthhfakkfdohcpaaGreat
open Go.RowKit Go.ChangeMaps Go.MapKept
theorem wpList_bslice2 {P0 : Program} (hP : P0 = Tryz.prog) {ops : Array Oper} {rest : List Oper} {o : Oper} {a : Act} {w : World} {Q : Exit → Act → World → Prop} (hg : o.guard = none) (t e : TypeId) (x y : Operand) (ho : o.op = .buildSlice t 2 #[(0, x), (1, y)])
    (u v : Value) (cs : List Value) (hx : a.eval x = u) (hy : a.eval y = v) (hrun : ∀ W, (Instr.buildSlice t 2 #[(0, u), (1, v)]).run Tryz.prog W = .ok (.slice (some ⟨W.heap.size, 0, none⟩) 2 2) (W.alloc (.cells cs.toArray e)))
    (h : ∀ g V, BoxAt V g cs → w.heap.size ≤ g → Below w.heap.size w V → wpList P0 ops Q rest (a.put o.dst (.slice (some ⟨g, 0, none⟩) 2 2)) V) : wpList P0 ops Q (o :: rest) a w := by
  subst hP
  refine wpList_plain hg fun K' hK' => ?_
  unfold Oper.wp
  simp only [execOp, ho, List.map_toArray, List.map_cons, List.map_nil, hx, hy, Sem.run_bind, Result.andThen, hrun, Sem.run_pure]
  exact hK' _ _ (h _ _ (BoxAt.new w cs e) (Nat.le_refl _) ((Below.refl _ w).alloc (Nat.le_refl _) _))
theorem step_bslice2 {ops : Array Oper} {o : Oper} {a : Act} {w : World} {K : Act → World → Prop} {Q : Exit → Act → World → Prop} {E : Prop} (d : Option Tmp) (hd : o.dst = d) (hg : o.guard = none) (t e : TypeId) (x y : Operand) (ho : o.op = .buildSlice t 2 #[(0, x), (1, y)])
    (u v : Value) (cs : List Value) (hx : a.eval x = u) (hy : a.eval y = v) (hrun : ∀ W, (Instr.buildSlice t 2 #[(0, u), (1, v)]).run Tryz.prog W = .ok (.slice (some ⟨W.heap.size, 0, none⟩) 2 2) (W.alloc (.cells cs.toArray e)))
    (h : ∀ g V, BoxAt V g cs → w.heap.size ≤ g → Below w.heap.size w V → K (a.put d (.slice (some ⟨g, 0, none⟩) 2 2)) V) : if Region.wanted o (yielded ops a.tmps) = true then Oper.wp Tryz.prog o a w K Q else E := by
  subst hd
  have hw : Region.wanted o (yielded ops a.tmps) = true := by simp [Region.wanted, hg]
  rw [if_pos hw]
  unfold Oper.wp
  simp only [execOp, ho, List.map_toArray, List.map_cons, List.map_nil, hx, hy, Sem.run_bind, Result.andThen, hrun, Sem.run_pure]
  exact h _ _ (BoxAt.new w cs e) (Nat.le_refl _) ((Below.refl _ w).alloc (Nat.le_refl _) _)
theorem wpList_build3 {P0 : Program} (hP : P0 = Tryz.prog) {ops : Array Oper} {rest : List Oper} {o : Oper} {a : Act} {w : World} {Q : Exit → Act → World → Prop} (hg : o.guard = none) (t : TypeId) (i j k : Nat) (x y z : Operand) (ho : o.op = .build t #[(i, x), (j, y), (k, z)])
    (u v q r : Value) (hx : a.eval x = u) (hy : a.eval y = v) (hz : a.eval z = q) (hrun : ∀ W, (Instr.build t #[(i, u), (j, v), (k, q)]).run Tryz.prog W = .ok r W) (h : wpList P0 ops Q rest (a.put o.dst r) w) : wpList P0 ops Q (o :: rest) a w := by
  subst hP
  refine wpList_plain hg fun K' hK' => ?_
  unfold Oper.wp
  simp only [execOp, ho, List.map_toArray, List.map_cons, List.map_nil, hx, hy, hz, Sem.run_bind, Result.andThen, hrun, Sem.run_pure]
  exact hK' _ _ h
/-- The cells of a program. -/
def crL (q : Nat → Nat) (hs : Value) (gd gt : Nat) : List Value := [.slice (some ⟨q 0, 0, none⟩) 2 2, .slice (some ⟨q 1, 0, none⟩) 2 2, .slice (some ⟨q 2, 0, none⟩) 1 1, .slice (some ⟨q 3, 0, none⟩) 3 3, .int .i64 3, .int .i64 3, .int .i64 2, hs, .slice (some ⟨gd, 0, none⟩) 2 2, .slice (some ⟨gt, 0, none⟩) 2 2]
def prZ : List Value := [.slice none 0 0, .slice none 0 0, .slice none 0 0, .slice none 0 0, .int .i64 0, .int .i64 0, .int .i64 0, .slice none 0 0, .slice none 0 0, .slice none 0 0]
theorem crL_one {q : Nat → Nat} {A : Option Addr} {n c gd gt : Nat} : ∀ u ∈ crL q (.slice A n c) gd gt, u.oneCell' = true := by
  intro u hu
  simp only [crL, List.mem_cons, List.not_mem_nil, or_false] at hu
  rcases hu with rfl | rfl | rfl | rfl | rfl | rfl | rfl | rfl | rfl | rfl <;> rfl
def thL : List Value := [.int .i64 1, .int .i64 2]
theorem bs_defs (g1 g2 : Nat) (W : World) : (Instr.buildSlice 46 2 #[(0, .agg (dnL ⟨1, 19, tName, g1⟩).toArray), (1, .agg (dnL ⟨2, 29, tName, g2⟩).toArray)]).run Tryz.prog W = .ok (.slice (some ⟨W.heap.size, 0, none⟩) 2 2) (W.alloc (.cells ((dnL ⟨1, 19, tName, g1⟩) ++ (dnL ⟨2, 29, tName, g2⟩)).toArray 83)) := by kernel_rfl
theorem bs_ths (W : World) : (Instr.buildSlice 42 2 #[(0, .int .i64 1), (1, .int .i64 2)]).run Tryz.prog W = .ok (.slice (some ⟨W.heap.size, 0, none⟩) 2 2) (W.alloc (.cells thL.toArray 3)) := by kernel_rfl
theorem bs_heads (W : World) : (Instr.buildSlice 45 2 #[(0, .agg #[.int .i64 1, .int .i64 0, .int .i64 0, .slice none 0 0, .slice none 0 0]), (1, .agg #[.int .i64 2, .int .i64 0, .int .i64 0, .slice none 0 0, .slice none 0 0])]).run Tryz.prog W = .ok (.slice (some ⟨W.heap.size, 0, none⟩) 2 2) (W.alloc (.cells headL.toArray 86)) := by kernel_rfl
theorem bd_prog (q : Nat → Nat) (gd gt : Nat) (W : World) : (Instr.build 48 #[(0, .agg (dcL q).toArray), (2, .slice (some ⟨gd, 0, none⟩) 2 2), (3, .slice (some ⟨gt, 0, none⟩) 2 2)]).run Tryz.prog W = .ok (.agg (crL q (.slice none 0 0) gd gt).toArray) W := by kernel_rfl
def CrTo (w : World) (last : Int) (e : Ending) (w' : World) : Prop := ∃ b g1 g2, e = .returned (.agg (pgL b).toArray) ∧ CrAt w' last b g1 g2 ∧ Below w.heap.size w w'
set_option maxRecDepth 100000 in
set_option maxHeartbeats 8000000 in
theorem crossed_any (last : Int) (hla : last = 0 ∨ last = 2) (w : World) : Calls Tryz.prog 7 #[.int .i64 last] w (CrTo w last) := by
  have hL2 : Lk3 2 1 last := hla.elim (fun h => .inr (.inl ⟨rfl, rfl, h⟩)) (fun h => .inr (.inr ⟨rfl, rfl, h⟩))
  go_enter Tryz.func7, Tryz.ntmps7
  go_upto_region 1 with (fail)
  obtain ⟨W, hW⟩ : ∃ V, V = w.alloc (.cells prZ.toArray 48) := ⟨_, rfl⟩
  have hb := BoxAt.new w prZ 48
  have hbW : Below w.heap.size w (w.alloc (.cells prZ.toArray 48)) := (Below.refl _ w).alloc (Nat.le_refl _) _
  rw [← hW] at hb hbW
  simp only [prZ] at hW
  rw [← hW]
  clear hW
  have H2 := hide hb
  have HbW := hide hbW
  clear hb hbW
  go_upto_region 2 with (first
    | (go_at_call 20; refine (declared_any _).mono ?_; rintro e w1 ⟨q, rfl, hb⟩; replace H2 := hide (H2.out.below hb); replace HbW := hide (HbW.out.trans (hb.mono HbW.out.size)); clear hb)
    | (have hx := HB1; clear hx; go_at_call 21; refine (locker_any 2 1 last hL2 _).mono ?_; rintro e w3 ⟨g2, rfl, hg2, hB, hb⟩; have HB2 := hide hB; have Hg2 : Hid (w.heap.size < g2) := hide (by have := H2.out.2.2; omega); replace H2 := hide (H2.out.below hb); replace HbW := hide (HbW.out.trans (hb.mono HbW.out.size)); replace HB1 := hide (BoxAt.below HB1.out hb); clear hB hb hg2)
    | (go_at_call 21; refine (locker_any 1 0 1 (.inl ⟨rfl, rfl, rfl⟩) _).mono ?_; rintro e w2 ⟨g1, rfl, hg1, hB, hb⟩; have HB1 := hide hB; have Hg1 : Hid (w.heap.size < g1) := hide (by have := H2.out.2.2; omega); replace H2 := hide (H2.out.below hb); replace HbW := hide (HbW.out.trans (hb.mono HbW.out.size)); clear hB hb hg1)
    | ((with_reducible refine wpList_bslice2 ?_ ?_ 46 83 (.tmp 5) (.tmp 7) ?_ (.agg (dnL ⟨1, 19, tName, g1⟩).toArray) (.agg (dnL ⟨2, 29, tName, g2⟩).toArray) ((dnL ⟨1, 19, tName, g1⟩) ++ (dnL ⟨2, 29, tName, g2⟩)) ?_ ?_ (bs_defs g1 g2) ?_); (focus rfl); (focus rfl); (focus rfl); (focus rfl); (focus rfl); intro gd Vd hVd hgd hb; have HD := hide hVd; have Hgw : Hid (w.heap.size < g1 ∧ w.heap.size < g2 ∧ w.heap.size < gd) := hide ⟨Hg1.out, Hg2.out, by have := H2.out.2.2; omega⟩; replace H2 := hide (H2.out.below hb); replace HbW := hide (HbW.out.trans (hb.mono HbW.out.size)); replace HB1 := hide (BoxAt.below HB1.out hb); replace HB2 := hide (BoxAt.below HB2.out hb); clear hVd hgd hb)
    | ((with_reducible refine wpList_bslice2 ?_ ?_ 42 3 (.const (.int .i64 1)) (.const (.int .i64 2)) ?_ (.int .i64 1) (.int .i64 2) thL ?_ ?_ bs_ths ?_); (focus rfl); (focus rfl); (focus rfl); (focus rfl); (focus rfl); intro gt Vt hVt hgt hb; replace H2 := hide (H2.out.below hb); replace HD := hide (HD.out.below hb); replace HbW := hide (HbW.out.trans (hb.mono HbW.out.size)); replace HB1 := hide (BoxAt.below HB1.out hb); replace HB2 := hide (BoxAt.below HB2.out hb); have Hlt : Hid (gd < Vt.heap.size ∧ g1 < Vt.heap.size ∧ g2 < Vt.heap.size ∧ w.heap.size < Vt.heap.size) := hide ⟨HD.out.2.2, BoxAt.lt0 HB1.out, BoxAt.lt0 HB2.out, H2.out.2.2⟩; clear hVt hgt hb)
    | ((with_reducible refine wpList_build3 ?_ ?_ 48 0 2 3 (.tmp 4) (.tmp 8) (.tmp 9) ?_ (.agg (dcL q).toArray) (.slice (some ⟨gd, 0, none⟩) 2 2) (.slice (some ⟨gt, 0, none⟩) 2 2) (.agg (crL q (.slice none 0 0) gd gt).toArray) ?_ ?_ ?_ (bd_prog q gd gt) ?_); (focus rfl); (focus rfl); (focus rfl); (focus rfl); (focus rfl); (focus rfl); skip)
    | ((with_reducible refine wpList_store_new ?_ ?_ 48 (.tmp 3) (.tmp 10) ?_ (crL q (.slice none 0 0) gd gt) ?_ ?_ ?_ ?_ ?_ ?_); (focus rfl); (focus rfl); (focus rfl); (focus rfl); (focus rfl); (focus rfl); (focus kernel_rfl); (focus exact crL_one); intro V3 hV3 hbV3; have HV3 := hide hV3; have HbV3 := hide hbV3; clear hV3 hbV3; have hb := HbV3.out; replace H2 := hide (H2.out.below hb); replace HD := hide (HD.out.below hb); replace HbW := hide (HbW.out.trans (hb.mono HbW.out.size)); replace HB1 := hide (BoxAt.below HB1.out hb); replace HB2 := hide (BoxAt.below HB2.out hb); clear hb))
  obtain ⟨g3, hq3⟩ : ∃ q, q = Vt.heap.size := ⟨_, rfl⟩
  have h9 : gd < Vt.heap.size ∧ g1 < Vt.heap.size ∧ g2 < Vt.heap.size ∧ w.heap.size < Vt.heap.size := Hlt.out
  rw [← hq3] at HV3 ⊢
  have Hg3 : Hid (gd ≠ g3 ∧ g1 ≠ g3 ∧ g2 ≠ g3 ∧ w.heap.size < g3 ∧ g1 ≠ w.heap.size ∧ g2 ≠ w.heap.size ∧ gd ≠ w.heap.size) := hide (by have := Hgw.out; omega)
  clear hq3 h9
  have H3 := HV3
  clear HV3 HbV3
  refine wp_region_held_drew (S := fun w' => w'.cell? ⟨g3, 8, none⟩ = some (.slice (some ⟨gd, 0, none⟩) 2 2) ∧ BoxAt w' gd ((dnL ⟨1, 19, tName, g1⟩) ++ (dnL ⟨2, 29, tName, g2⟩))) (by kernel_rfl) ?_ (fun hHeld => ?_)
  · exact ⟨(H3.out.below (Below.refl _ _).drew).1 8 _ rfl, HD.out.below (Below.refl _ _).drew⟩
  generalize hw0 : World.drew V3 = w0 at hHeld ⊢
  have HB0 : Hid (Below V3.heap.size V3 w0) := hide (by rw [← hw0]; exact (Below.refl _ V3).drew)
  replace H2 := hide (H2.out.below HB0.out)
  replace HD := hide (HD.out.below HB0.out)
  replace H3 := hide (H3.out.below HB0.out)
  replace HB1 := hide (BoxAt.below HB1.out HB0.out)
  replace HB2 := hide (BoxAt.below HB2.out HB0.out)
  replace HbW := hide (HbW.out.trans (HB0.out.mono HbW.out.size))
  clear hw0
  refine take_as 0 (some 11) (v := ?_) rfl rfl (by kernel_rfl) (by kernel_rfl) (by kernel_rfl) (fun _ _ _ h => h) (Or.inl ⟨by rfl, ?_⟩) (by assumption) ?_
  rotate_left 1
  · intro w2 hSw
    go_simp
    try with_reducible rfl
  try simp only [Act.put, List.setIfInBounds_toArray, List.set_cons_zero, List.set_cons_succ]
  refine take_as 1 (some 12) (v := ?_) rfl rfl (by kernel_rfl) (by kernel_rfl) (by kernel_rfl) (fun _ _ _ h => h) (Or.inl ⟨by rfl, ?_⟩) (by assumption) ?_
  rotate_left 1
  · intro w2 hSw
    have hl := hSw.1
    go_simp
    try with_reducible rfl
  try simp only [Act.put, List.setIfInBounds_toArray, List.set_cons_zero, List.set_cons_succ]
  refine take_as 2 (some 13) (v := ?_) rfl rfl (by kernel_rfl) (by kernel_rfl) (by kernel_rfl) (fun _ _ _ h => h) (Or.inl ⟨by rfl, ?_⟩) (by assumption) ?_
  rotate_left 1
  · intro w2 hSw
    go_simp
    try with_reducible rfl
  try simp only [Act.put, List.setIfInBounds_toArray, List.set_cons_zero, List.set_cons_succ]
  refine take_as 3 (some 14) rfl rfl (by kernel_rfl) (by kernel_rfl) (by kernel_rfl) (fun _ _ _ h => h) (yieldsIf_load_mid (by rfl) 83 (.tmp 13) rfl gd 0 rfl (dnL ⟨1, 19, tName, g1⟩) _ (fun w2 hSw => hSw.2.sub 0 (dnL ⟨1, 19, tName, g1⟩) rfl) Tryz.underlying83 rfl (by kernel_rfl)) (by assumption) ?_
  try simp only [Act.put, List.setIfInBounds_toArray, List.set_cons_zero, List.set_cons_succ]
  refine take_as 5 (some 16) (v := ?_) rfl rfl (by kernel_rfl) (by kernel_rfl) (by kernel_rfl) (fun _ _ _ h => h) (Or.inl ⟨by rfl, ?_⟩) (by assumption) ?_
  rotate_left 1
  · intro w2 hSw
    go_simp
    try with_reducible rfl
  try simp only [Act.put, List.setIfInBounds_toArray, List.set_cons_zero, List.set_cons_succ]
  refine take_as 6 (some 17) (v := ?_) rfl rfl (by kernel_rfl) (by kernel_rfl) (by kernel_rfl) (fun _ _ _ h => h) (Or.inl ⟨by rfl, ?_⟩) (by assumption) ?_
  rotate_left 1
  · intro w2 hSw
    have hl := hSw.1
    go_simp
    try with_reducible rfl
  try simp only [Act.put, List.setIfInBounds_toArray, List.set_cons_zero, List.set_cons_succ]
  refine take_as 7 (some 18) (v := ?_) rfl rfl (by kernel_rfl) (by kernel_rfl) (by kernel_rfl) (fun _ _ _ h => h) (Or.inl ⟨by rfl, ?_⟩) (by assumption) ?_
  rotate_left 1
  · intro w2 hSw
    go_simp
    try with_reducible rfl
  try simp only [Act.put, List.setIfInBounds_toArray, List.set_cons_zero, List.set_cons_succ]
  refine take_as 8 (some 19) rfl rfl (by kernel_rfl) (by kernel_rfl) (by kernel_rfl) (fun _ _ _ h => h) (yieldsIf_load_mid (by rfl) 83 (.tmp 18) rfl gd 12 rfl (dnL ⟨2, 29, tName, g2⟩) _ (fun w2 hSw => hSw.2.sub 12 (dnL ⟨2, 29, tName, g2⟩) rfl) Tryz.underlying83 rfl (by kernel_rfl)) (by assumption) ?_
  try simp only [Act.put, List.setIfInBounds_toArray, List.set_cons_zero, List.set_cons_succ]
  refine wpAnyH_ready (rs := [4]) (by kernel_rfl) (by simp) ?_
  refine AllReadyH.cons rfl (fun K hK => ?_) ?_
  · go_simp
    refine (head_any ⟨1, 19, tName, g1⟩ _).mono ?_
    rintro e w1 ⟨rfl, hb⟩
    replace H2 := hide (H2.out.below hb)
    replace HD := hide (HD.out.below hb)
    replace H3 := hide (H3.out.below hb)
    replace HB1 := hide (BoxAt.below HB1.out hb)
    replace HB2 := hide (BoxAt.below HB2.out hb)
    replace HbW := hide (HbW.out.trans (hb.mono HbW.out.size))
    clear hb
    go_wp2_with fail
    refine hK.out _ _ ?_ (fun hHeld => ?_)
    · exact ⟨H3.out.1 8 _ rfl, HD.out⟩
    clear hK K
    try simp only [Act.put, List.setIfInBounds_toArray, List.set_cons_zero, List.set_cons_succ]
    refine wpAnyH_ready (rs := [9]) (by kernel_rfl) (by simp) ?_
    refine AllReadyH.cons rfl (fun K hK => ?_) ?_
    · go_simp
      refine (head_any ⟨2, 29, tName, g2⟩ _).mono ?_
      rintro e w2 ⟨rfl, hb⟩
      replace H2 := hide (H2.out.below hb)
      replace HD := hide (HD.out.below hb)
      replace H3 := hide (H3.out.below hb)
      replace HB1 := hide (BoxAt.below HB1.out hb)
      replace HB2 := hide (BoxAt.below HB2.out hb)
      replace HbW := hide (HbW.out.trans (hb.mono HbW.out.size))
      clear hb
      go_wp2_with fail
      refine hK.out _ _ ?_ (fun hHeld => ?_)
      · exact ⟨H3.out.1 8 _ rfl, HD.out⟩
      clear hK K
      try simp only [Act.put, List.setIfInBounds_toArray, List.set_cons_zero, List.set_cons_succ]
      refine wpAnyH_ready (rs := [10]) (by kernel_rfl) (by simp) ?_
      refine AllReadyH.cons rfl (fun K hK => ?_) ?_
      · refine step_bslice2 (some 21) rfl rfl 45 86 (.tmp 15) (.tmp 20) rfl (.agg #[.int .i64 1, .int .i64 0, .int .i64 0, .slice none 0 0, .slice none 0 0]) (.agg #[.int .i64 2, .int .i64 0, .int .i64 0, .slice none 0 0, .slice none 0 0]) headL rfl rfl bs_heads (fun gh w3 hVh hgh hb => ?_)
        have HH := hide hVh
        have HgH : Hid (gh ≠ g3 ∧ gh ≠ w.heap.size) := hide (by have h1 := H3.out.2.2; have h2 := H2.out.2.2; omega)
        replace H2 := hide (H2.out.below hb)
        replace HD := hide (HD.out.below hb)
        replace H3 := hide (H3.out.below hb)
        replace HB1 := hide (BoxAt.below HB1.out hb)
        replace HB2 := hide (BoxAt.below HB2.out hb)
        replace HbW := hide (HbW.out.trans (hb.mono HbW.out.size))
        clear hVh hgh hb
        refine hK.out _ _ ?_ (fun hHeld => ?_)
        · exact ⟨H3.out.1 8 _ rfl, HD.out⟩
        clear hK K
        try simp only [Act.put, List.setIfInBounds_toArray, List.set_cons_zero, List.set_cons_succ]
        refine take_as 11 (some 22) (v := ?_) rfl rfl (by kernel_rfl) (by kernel_rfl) (by kernel_rfl) (fun _ _ _ h => h) (Or.inl ⟨by rfl, ?_⟩) (by assumption) ?_
        rotate_left 1
        · intro w2 hSw
          go_simp
          try with_reducible rfl
        try simp only [Act.put, List.setIfInBounds_toArray, List.set_cons_zero, List.set_cons_succ]
        refine wpAnyH_ready (rs := [12]) (by kernel_rfl) (by simp) ?_
        refine AllReadyH.cons rfl (fun K hK => ?_) ?_
        · refine step_store_cell rfl rfl 45 (.tmp 22) (.tmp 21) rfl g3 7 (crL q (.slice none 0 0) gd gt) (.slice (some ⟨gh, 0, none⟩) 2 2) (crL q (.slice (some ⟨gh, 0, none⟩) 2 2) gd gt) rfl rfl H3.out (by show 7 < 10; decide) rfl rfl (by kernel_rfl) (fun w4 hV hT => ?_)
          replace H3 := hide hV
          replace H2 := hide (H2.out.but hT (by have := Hg3.out; omega))
          replace HD := hide (HD.out.but hT (by have := Hg3.out; omega))
          replace HH := hide (HH.out.but hT HgH.out.1)
          replace HB1 := hide (BoxAt.but HB1.out hT (by have := Hg3.out; omega))
          replace HB2 := hide (BoxAt.but HB2.out hT (by have := Hg3.out; omega))
          replace HbW := hide (HbW.out.trans (hT.below HbW.out.size (fun k hk => by have := Hg3.out; omega)))
          clear hV hT
          refine hK.out _ _ ?_ (fun hHeld => ?_)
          · exact ⟨H3.out.1 8 _ rfl, HD.out⟩
          clear hK K
          try simp only [Act.put, List.setIfInBounds_toArray, List.set_cons_zero, List.set_cons_succ]
          refine wpAnyH_done (by kernel_rfl) ?_ _
          go_wp2_with (first
            | (have h8 := HV2; clear h8; exact bodyPost_ret (res_box (cs := (crL q (.slice (some ⟨gh, 0, none⟩) 2 2) gd gt)) rfl rfl HV2.out Tryz.underlying48 rfl (by kernel_rfl)) rfl ⟨(fun k => if k < 4 then q k else if k = 4 then gh else if k = 5 then gd else gt), g1, g2, rfl, ⟨HD.out.but HTV2.out (by have := Hg3.out; omega), BoxAt.but HB1.out HTV2.out (by have := Hg3.out; omega), BoxAt.but HB2.out HTV2.out (by have := Hg3.out; omega), HH.out.but HTV2.out HgH.out.2⟩, HbW.out.trans (HTV2.out.below HbW.out.size (fun k hk => by omega))⟩)
            | ((with_reducible refine wpList_load_mid ?_ 48 (.tmp 3) ?_ (g3) (0) ?_ (crL q (.slice (some ⟨gh, 0, none⟩) 2 2) gd gt) _ ?_ Tryz.underlying48 ?_ ?_ ?_); (focus rfl); (focus rfl); (focus rfl); (focus exact H3.out.whole); (focus rfl); (focus kernel_rfl))
            | ((with_reducible refine wpList_store_in ?_ ?_ 48 (.tmp 2) (.tmp 23) ?_ (w.heap.size) 0 prZ (crL q (.slice (some ⟨gh, 0, none⟩) 2 2) gd gt) (crL q (.slice (some ⟨gh, 0, none⟩) 2 2) gd gt) ?_ ?_ ?_ ?_ ?_ ?_ ?_ ?_); (focus rfl); (focus rfl); (focus rfl); (focus rfl); (focus rfl); (focus exact H2.out); (focus (show 0 + 10 ≤ 10; decide)); (focus rfl); (focus kernel_rfl); (focus exact crL_one); intro V2 hV2 hTV2; have HV2 := hide hV2; have HTV2 := hide hTV2; clear hV2 hTV2))
        exact AllReadyH.nil
      exact AllReadyH.nil
    exact AllReadyH.nil
  exact AllReadyH.nil

end Go.Proofs.YthhfakkfdohcpaaGreat
/- The law's own word for a whole analysis. No condition. -/
namespace Go.Proofs.YthhfakkfdohcpaaGreat
open Go.RowKit Go.ChangeMaps Go.MapKept
def doZ : List Value := [.slice none 0 0, .slice none 0 0, .int .i64 0]
theorem do_one {A1 A2 : Option Addr} {n1 n2 c1 c2 : Nat} {e : Int} : ∀ u ∈ [Value.slice A1 n1 c1, Value.slice A2 n2 c2, .int .i64 e], u.oneCell' = true := by
  intro u hu
  simp only [List.mem_cons, List.not_mem_nil, or_false] at hu
  rcases hu with rfl | rfl | rfl <;> rfl
/-- What a whole analysis gives. -/
structure DoneAt (W : World) (B g c : Nat) (p1 p2 : Pv) (A : Option Addr) (n : Nat) (q1 q2 : Tri) (fs : List Tri) : Prop where
  pv : PvsAt W B g p1 p2 q1 q2
  n : n = fs.length
  fn : 0 < fs.length → ∃ h, A = some ⟨h, 0, none⟩ ∧ B ≤ h ∧ PrsAt W h fs
theorem DoneAt.below {W W' : World} {B g c : Nat} {p1 p2 : Pv} {A : Option Addr} {n : Nat} {q1 q2 : Tri} {fs : List Tri} (h : DoneAt W B g c p1 p2 A n q1 q2 fs) (hb : Below W.heap.size W W') : DoneAt W' B g c p1 p2 A n q1 q2 fs :=
  ⟨h.pv.below hb, h.n, fun h0 => by obtain ⟨x, h1, h2, h3⟩ := h.fn h0; exact ⟨x, h1, h2, BoxAt.below h3 hb⟩⟩
theorem DoneAt.but {W W' : World} {B g c r : Nat} {p1 p2 : Pv} {A : Option Addr} {n : Nat} {q1 q2 : Tri} {fs : List Tri} (h : DoneAt W B g c p1 p2 A n q1 q2 fs) (hb : But (fun k => k = r) W W') (hr : r < B) : DoneAt W' B g c p1 p2 A n q1 q2 fs :=
  ⟨h.pv.but hb hr, h.n, fun h0 => by obtain ⟨x, h1, h2, h3⟩ := h.fn h0; exact ⟨x, h1, h2, BoxAt.but h3 hb (by omega)⟩⟩
theorem DoneAt.mono {W : World} {B C g c : Nat} {p1 p2 : Pv} {A : Option Addr} {n : Nat} {q1 q2 : Tri} {fs : List Tri} (h : DoneAt W B g c p1 p2 A n q1 q2 fs) (hc : C ≤ B) : DoneAt W C g c p1 p2 A n q1 q2 fs :=
  ⟨h.pv.mono hc, h.n, fun h0 => by obtain ⟨x, h1, h2, h3⟩ := h.fn h0; exact ⟨x, h1, by omega, h3⟩⟩
def DoneTo (w : World) (q1 q2 : Tri) (fs : List Tri) (e : Ending) (w' : World) : Prop :=
  ∃ g c p1 p2 A n c2, e = .returned (.agg #[.slice (some ⟨g, 0, none⟩) 2 c, .slice A n c2, .int .i64 0]) ∧ DoneAt w' w.heap.size g c p1 p2 A n q1 q2 fs ∧ Below w.heap.size w w'
set_option maxRecDepth 100000 in
set_option maxHeartbeats 4000000 in
theorem done_ok (b : Nat → Nat) (lv : Int) (q1 q2 : Tri) (fs : List Tri) (w : World) (hc : ∀ W, Below w.heap.size w W → Calls Tryz.prog 19 #[.agg (pgL b).toArray, .agg ([.int .i64 lv, .slice none 0 0]).toArray, .slice none 0 0] W (ColdTo W q1 q2 fs)) :
    Calls Tryz.prog 6 #[.agg (pgL b).toArray, .agg ([.int .i64 lv, .slice none 0 0]).toArray, .slice none 0 0] w (DoneTo w q1 q2 fs) := by
  have Hc := hide hc; clear hc
  go_enter Tryz.func6, Tryz.ntmps6
  simp only [pgL]
  go_upto_region 1 with (fail)
  obtain ⟨W, hW⟩ : ∃ V, V = ((w.alloc (.cells (pgL b).toArray 48)).alloc (.cells ([.int .i64 lv, .slice none 0 0]).toArray 52)).alloc (.cells doZ.toArray 38) := ⟨_, rfl⟩
  have hb3 := boxes3 w _ _ _ _ _ _ W hW
  have hW' := hW
  simp only [pgL, doZ] at hW'
  rw [← hW']
  clear hW hW'
  obtain ⟨b3, b4, b6, hz, hbW⟩ := hb3
  have H3 := hide b3
  have H4 := hide b4
  have H6 := hide b6
  have HbW := hide hbW
  have Hz := hide hz
  clear b3 b4 b6 hbW hz
  go_upto_region 2 with (first
    | ((with_reducible refine wpList_load_mid ?_ 48 (.tmp 3) ?_ (w.heap.size) (0) ?_ (pgL b) _ ?_ Tryz.underlying48 ?_ ?_ ?_); (focus rfl); (focus rfl); (focus rfl); (focus exact H3.out.whole); (focus rfl); (focus kernel_rfl); simp only [pgL])
    | ((with_reducible refine wpList_load_mid ?_ 52 (.tmp 4) ?_ ((w.heap.size + 1)) (0) ?_ [.int .i64 lv, .slice none 0 0] _ ?_ Tryz.underlying52 ?_ ?_ ?_); (focus rfl); (focus rfl); (focus rfl); (focus exact H4.out.whole); (focus rfl); (focus kernel_rfl))
    | (go_at_call 19; refine (Hc.out _ HbW.out).mono ?_; rintro e w1 ⟨g, c, p1, p2, A, n, c2, rfl, hpv, hn, hfa, hb⟩; have HD : Hid (DoneAt w1 W.heap.size g c p1 p2 A n q1 q2 fs) := hide ⟨hpv, hn, hfa⟩; replace H6 := hide (H6.out.below hb); have HB1 := hide (HbW.out.trans (hb.mono HbW.out.size)); have Hz1 := hide hb.size; clear hb hpv hn hfa)
    | ((with_reducible refine wpList_store_new ?_ ?_ 35 (.tmp 7) (.tmp 14) ?_ [Value.slice (some ⟨g, 0, none⟩) 2 c, .slice A n c2] ?_ ?_ ?_ ?_ ?_ ?_); (focus rfl); (focus rfl); (focus rfl); (focus rfl); (focus rfl); (focus rfl); (focus kernel_rfl); (focus exact whR_one); intro V7 hV7 hbV7; have HV7 := hide hV7; have HbV7 := hide hbV7; clear hV7 hbV7; replace HD := hide (HD.out.below HbV7.out); replace H6 := hide (H6.out.below HbV7.out); replace HB1 := hide (HB1.out.trans (HbV7.out.mono HB1.out.size))))
  obtain ⟨g7, hq7⟩ : ∃ q, q = w1.heap.size := ⟨_, rfl⟩
  rw [← hq7] at HV7 ⊢
  clear hq7
  go_wp2_with (first
    | (have h8 := HV6; clear h8; exact bodyPost_ret (res_box (cs := [Value.slice (some ⟨g, 0, none⟩) 2 c, .slice A n c2, .int .i64 0]) rfl rfl HV6.out Tryz.underlying38 rfl (by kernel_rfl)) rfl ⟨g, c, p1, p2, A, n, c2, rfl, (HD.out.but HTV6.out (by have := Hz.out; omega)).mono (by have := Hz.out; omega), HB1.out.trans (HTV6.out.below HB1.out.size (fun k hk => by omega))⟩)
    | ((with_reducible refine wpList_load_mid ?_ 35 (.tmp 7) ?_ (g7) (0) ?_ [Value.slice (some ⟨g, 0, none⟩) 2 c, .slice A n c2] _ ?_ Tryz.underlying35 ?_ ?_ ?_); (focus rfl); (focus rfl); (focus rfl); (focus exact HV7.out.whole); (focus rfl); (focus kernel_rfl))
    | ((with_reducible refine wpList_store_in ?_ ?_ 38 (.tmp 6) (.tmp 18) ?_ (w.heap.size + 1 + 1) 0 doZ [Value.slice (some ⟨g, 0, none⟩) 2 c, .slice A n c2, .int .i64 0] [Value.slice (some ⟨g, 0, none⟩) 2 c, .slice A n c2, .int .i64 0] ?_ ?_ ?_ ?_ ?_ ?_ ?_ ?_); (focus rfl); (focus rfl); (focus rfl); (focus rfl); (focus rfl); (focus exact H6.out); (focus (show 0 + 3 ≤ 3; decide)); (focus rfl); (focus kernel_rfl); (focus exact do_one); intro V6 hV6 hTV6; have HV6 := hide hV6; have HTV6 := hide hTV6; clear hV6 hTV6))
set_option maxRecDepth 100000 in
set_option maxHeartbeats 4000000 in
/-- A setup that there is not is refused. -/
theorem cold_no (b : Nat → Nat) (w : World) : Calls Tryz.prog 19 #[.agg (pgL b).toArray, .agg ([.int .i64 3, .slice none 0 0]).toArray, .slice none 0 0] w fun e w' => e = .returned (.tuple #[.agg whZ.toArray, .int .i64 1]) ∧ Below w.heap.size w w' := by
  go_enter Tryz.func19, Tryz.ntmps19
  simp only [pgL]
  go_upto_region 1 with (fail)
  obtain ⟨W, hW⟩ : ∃ V, V = ((w.alloc (.cells (pgL b).toArray 48)).alloc (.cells ([.int .i64 3, .slice none 0 0]).toArray 52)).alloc (.cells whZ.toArray 35) := ⟨_, rfl⟩
  have hb3 := boxes3c w _ _ _ _ _ _ W hW
  have hW' := hW
  simp only [pgL, whZ] at hW'
  rw [← hW']
  clear hW hW'
  obtain ⟨b3, b4, b6, hz, hbW⟩ := hb3
  have H3 := hide b3
  have H4 := hide b4
  have H6 := hide b6
  have HbW := hide hbW
  clear b3 b4 b6 hbW hz
  go_wp2_with (first
    | (have h8 := HV6; clear h8; exact bodyPost_ret (res_box2 (cs := whZ) rfl rfl rfl HV6.out Tryz.underlying35 rfl (by kernel_rfl)) rfl ⟨rfl, HbW.out.trans (HTV6.out.below HbW.out.size (fun k hk => by omega))⟩)
    | ((with_reducible refine wpList_load_mid ?_ 48 (.tmp 3) ?_ (w.heap.size) (0) ?_ (pgL b) _ ?_ Tryz.underlying48 ?_ ?_ ?_); (focus rfl); (focus rfl); (focus rfl); (focus exact H3.out.whole); (focus rfl); (focus kernel_rfl); simp only [pgL])
    | ((with_reducible refine wpList_load_mid ?_ 52 (.tmp 4) ?_ ((w.heap.size + 1)) (0) ?_ [.int .i64 3, .slice none 0 0] _ ?_ Tryz.underlying52 ?_ ?_ ?_); (focus rfl); (focus rfl); (focus rfl); (focus exact H4.out.whole); (focus rfl); (focus kernel_rfl))
    | (go_at_call 34; refine (right_not b _).mono ?_; rintro e w1 ⟨rfl, hb1⟩; replace H6 := hide (H6.out.below hb1); replace HbW := hide (HbW.out.trans (hb1.mono HbW.out.size)); clear hb1)
    | ((with_reducible refine wpList_store_in ?_ ?_ 35 (.tmp 6) (.tmp 20) ?_ (w.heap.size + 1 + 1) 0 whZ whZ whZ ?_ ?_ ?_ ?_ ?_ ?_ ?_ ?_); (focus rfl); (focus rfl); (focus rfl); (focus rfl); (focus rfl); (focus exact H6.out); (focus (show 0 + 2 ≤ 2; decide)); (focus rfl); (focus kernel_rfl); (focus exact whZ_one); intro V6 hV6 hTV6; have HV6 := hide hV6; have HTV6 := hide hTV6; clear hV6 hTV6))
set_option maxRecDepth 100000 in
set_option maxHeartbeats 4000000 in
theorem done_no (b : Nat → Nat) (w : World) : Calls Tryz.prog 6 #[.agg (pgL b).toArray, .agg ([.int .i64 3, .slice none 0 0]).toArray, .slice none 0 0] w fun e w' => e = .returned (.agg #[.slice none 0 0, .slice none 0 0, .int .i64 1]) ∧ Below w.heap.size w w' := by
  go_enter Tryz.func6, Tryz.ntmps6
  simp only [pgL]
  go_upto_region 1 with (fail)
  obtain ⟨W, hW⟩ : ∃ V, V = ((w.alloc (.cells (pgL b).toArray 48)).alloc (.cells ([.int .i64 3, .slice none 0 0]).toArray 52)).alloc (.cells doZ.toArray 38) := ⟨_, rfl⟩
  have hb3 := boxes3 w _ _ _ _ _ _ W hW
  have hW' := hW
  simp only [pgL, doZ] at hW'
  rw [← hW']
  clear hW hW'
  obtain ⟨b3, b4, b6, hz, hbW⟩ := hb3
  have H3 := hide b3
  have H4 := hide b4
  have H6 := hide b6
  have HbW := hide hbW
  clear b3 b4 b6 hbW hz
  go_upto_region 2 with (first
    | ((with_reducible refine wpList_load_mid ?_ 48 (.tmp 3) ?_ (w.heap.size) (0) ?_ (pgL b) _ ?_ Tryz.underlying48 ?_ ?_ ?_); (focus rfl); (focus rfl); (focus rfl); (focus exact H3.out.whole); (focus rfl); (focus kernel_rfl); simp only [pgL])
    | ((with_reducible refine wpList_load_mid ?_ 52 (.tmp 4) ?_ ((w.heap.size + 1)) (0) ?_ [.int .i64 3, .slice none 0 0] _ ?_ Tryz.underlying52 ?_ ?_ ?_); (focus rfl); (focus rfl); (focus rfl); (focus exact H4.out.whole); (focus rfl); (focus kernel_rfl))
    | (go_at_call 19; refine (cold_no b _).mono ?_; rintro e w1 ⟨rfl, hb⟩; replace H6 := hide (H6.out.below hb); have HB1 := hide (HbW.out.trans (hb.mono HbW.out.size)); clear hb)
    | ((with_reducible refine wpList_store_new ?_ ?_ 35 (.tmp 7) (.tmp 14) ?_ whZ ?_ ?_ ?_ ?_ ?_ ?_); (focus rfl); (focus rfl); (focus rfl); (focus rfl); (focus rfl); (focus rfl); (focus kernel_rfl); (focus exact whZ_one); intro V7 hV7 hbV7; have HV7 := hide hV7; have HbV7 := hide hbV7; clear hV7 hbV7; replace H6 := hide (H6.out.below HbV7.out); replace HB1 := hide (HB1.out.trans (HbV7.out.mono HB1.out.size))))
  obtain ⟨g7, hq7⟩ : ∃ q, q = w1.heap.size := ⟨_, rfl⟩
  rw [← hq7] at HV7 ⊢
  clear hq7
  go_wp2_with (first
    | (have h8 := HV6; clear h8; exact bodyPost_ret (res_box (cs := [.slice none 0 0, .slice none 0 0, .int .i64 1]) rfl rfl HV6.out Tryz.underlying38 rfl (by kernel_rfl)) rfl ⟨rfl, HB1.out.trans (HTV6.out.below HB1.out.size (fun k hk => by omega))⟩)
    | ((with_reducible refine wpList_load_mid ?_ 35 (.tmp 7) ?_ (g7) (0) ?_ whZ _ ?_ Tryz.underlying35 ?_ ?_ ?_); (focus rfl); (focus rfl); (focus rfl); (focus exact HV7.out.whole); (focus rfl); (focus kernel_rfl); simp only [whZ])
    | ((with_reducible refine wpList_store_in ?_ ?_ 38 (.tmp 6) (.tmp 18) ?_ (w.heap.size + 1 + 1) 0 doZ [.slice none 0 0, .slice none 0 0, .int .i64 1] [.slice none 0 0, .slice none 0 0, .int .i64 1] ?_ ?_ ?_ ?_ ?_ ?_ ?_ ?_); (focus rfl); (focus rfl); (focus rfl); (focus rfl); (focus rfl); (focus exact H6.out); (focus (show 0 + 3 ≤ 3; decide)); (focus rfl); (focus kernel_rfl); (focus exact do_one); intro V6 hV6 hTV6; have HV6 := hide hV6; have HTV6 := hide hTV6; clear hV6 hTV6))
end Go.Proofs.YthhfakkfdohcpaaGreat
