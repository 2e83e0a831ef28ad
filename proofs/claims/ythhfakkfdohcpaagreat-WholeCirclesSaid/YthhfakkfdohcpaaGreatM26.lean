/- The orders of pairs and of findings, with what they draw and lay. No condition. -/
import Derived.Test.YthhfakkfdohcpaaGreatM25
import Derived.Sort.Grow
import Derived.Test.YthhfakkfdohcpaaGreatShelg
import Derived.Shelf.SlSortCmp.WholeK
import Derived.Shelf.SlSortCmp.NoneTotal
namespace Go.Proofs.YthhfakkfdohcpaaGreat
open Go.RowKit Go.ChangeMaps Go.MapKept
/-- A call that leaves what lay, and draws on: the world behind it is grown. -/
theorem grown_of {W W' : World} (h : Below W.heap.size W W') (hd : W.drawn ≤ W'.drawn) : ∃ q os, W' = Sort.grow (W.drewN q) os := by
  refine ⟨W'.drawn - W.drawn, W'.heap.extract W.heap.size W'.heap.size, ?_⟩
  obtain ⟨heap, tape, drawn, os, output⟩ := W
  obtain ⟨heap', tape', drawn', os', output'⟩ := W'
  obtain ⟨h1, h2, h3, h4, h5⟩ := h
  simp only at h1 h2 h3 h4 h5 hd
  subst h1 h2 h3
  simp only [Sort.grow, World.drewN, World.mk.injEq]
  refine ⟨?_, by first | rfl | trivial, by omega, by first | rfl | trivial, by first | rfl | trivial⟩
  apply Array.ext_getElem?
  intro i
  rw [Array.getElem?_append]
  split
  · rename_i hi
    exact h5 i hi
  · rename_i hi
    rw [Array.getElem?_extract]
    split
    · congr 1; omega
    · rename_i hj
      rw [Array.getElem?_eq_none (by omega)]
set_option maxRecDepth 100000 in
set_option maxHeartbeats 4000000 in
theorem order_pair_g (p q : Int × Int × Int) (w : World) : Calls Tryz.prog 17 #[.agg (prV p).toArray, .agg (prV q).toArray] w fun e w' => e = .returned (.int .i64 (prCmp p q)) ∧ ∃ q os, w' = Sort.grow (w.drewN q) os := by
  have hbs : ∀ (W : World) (x y z : Int), (Instr.buildSlice 42 3 #[(0, .int .i64 x), (1, .int .i64 y), (2, .int .i64 z)]).run Tryz.prog W = .ok (.slice (some ⟨W.heap.size, 0, none⟩) 3 3) (W.alloc (.cells #[.int .i64 x, .int .i64 y, .int .i64 z] 3)) := fun _ _ _ _ => by kernel_rfl
  go_enter Tryz.func17, Tryz.ntmps17
  simp only [prV]
  go_upto_region 1 with (fail)
  obtain ⟨W, hW⟩ : ∃ V, V = (w.alloc (.cells (prV p).toArray 29)).alloc (.cells (prV q).toArray 29) := ⟨_, rfl⟩
  have hb2 := boxes2 w _ _ _ _ W hW
  have hdw : W.drawn = w.drawn := by rw [hW]; rfl
  have hW' := hW
  simp only [prV] at hW'
  rw [← hW']
  clear hW hW'
  obtain ⟨b2, b3, hz, hbW⟩ := hb2
  have H2 := hide b2
  have H3 := hide b3
  have HbW := hide hbW
  have Hz := hide hz
  have Hdw := hide hdw
  clear b2 b3 hz hbW hdw
  refine wp_region_held_drew (S := fun w' => BoxAt w' w.heap.size (prV p) ∧ BoxAt w' (w.heap.size + 1) (prV q)) (by kernel_rfl) ?_ (fun hHeld => ?_)
  · exact ⟨H2.out.below (Below.refl _ _).drew, H3.out.below (Below.refl _ _).drew⟩
  generalize hw0 : World.drew W = w0 at hHeld ⊢
  have HB0 : Hid (Below W.heap.size W w0) := hide (by rw [← hw0]; exact (Below.refl _ W).drew)
  have DHB0 : Hid (w.drawn ≤ w0.drawn) := hide (by rw [← hw0]; show w.drawn ≤ W.drawn + 1; have := Hdw.out; omega)
  replace H2 := hide (H2.out.below HB0.out)
  replace H3 := hide (H3.out.below HB0.out)
  clear hw0
  refine take_as 0 (some 5) (v := ?_) rfl rfl (by kernel_rfl) (by kernel_rfl) (by kernel_rfl) (fun _ _ _ h => h) (Or.inl ⟨by rfl, ?_⟩) (by assumption) ?_
  rotate_left 1
  · intro w2 hSw
    go_simp
    try with_reducible rfl
  try simp only [Act.put, List.setIfInBounds_toArray, List.set_cons_zero, List.set_cons_succ]
  refine take_as 1 (some 6) (v := ?_) rfl rfl (by kernel_rfl) (by kernel_rfl) (by kernel_rfl) (fun _ _ _ h => h) (Or.inl ⟨by rfl, ?_⟩) (by assumption) ?_
  rotate_left 1
  · intro w2 hSw
    have hl := hSw.1.1 0 _ rfl
    go_simp
    try with_reducible rfl
  try simp only [Act.put, List.setIfInBounds_toArray, List.set_cons_zero, List.set_cons_succ]
  refine take_as 2 (some 7) (v := ?_) rfl rfl (by kernel_rfl) (by kernel_rfl) (by kernel_rfl) (fun _ _ _ h => h) (Or.inl ⟨by rfl, ?_⟩) (by assumption) ?_
  rotate_left 1
  · intro w2 hSw
    go_simp
    try with_reducible rfl
  try simp only [Act.put, List.setIfInBounds_toArray, List.set_cons_zero, List.set_cons_succ]
  refine take_as 3 (some 8) (v := ?_) rfl rfl (by kernel_rfl) (by kernel_rfl) (by kernel_rfl) (fun _ _ _ h => h) (Or.inl ⟨by rfl, ?_⟩) (by assumption) ?_
  rotate_left 1
  · intro w2 hSw
    have hl := hSw.2.1 0 _ rfl
    go_simp
    try with_reducible rfl
  try simp only [Act.put, List.setIfInBounds_toArray, List.set_cons_zero, List.set_cons_succ]
  refine take_as 5 (some 10) (v := ?_) rfl rfl (by kernel_rfl) (by kernel_rfl) (by kernel_rfl) (fun _ _ _ h => h) (Or.inl ⟨by rfl, ?_⟩) (by assumption) ?_
  rotate_left 1
  · intro w2 hSw
    go_simp
    try with_reducible rfl
  try simp only [Act.put, List.setIfInBounds_toArray, List.set_cons_zero, List.set_cons_succ]
  refine take_as 6 (some 11) (v := ?_) rfl rfl (by kernel_rfl) (by kernel_rfl) (by kernel_rfl) (fun _ _ _ h => h) (Or.inl ⟨by rfl, ?_⟩) (by assumption) ?_
  rotate_left 1
  · intro w2 hSw
    have hl := hSw.1.1 1 _ rfl
    go_simp
    try with_reducible rfl
  try simp only [Act.put, List.setIfInBounds_toArray, List.set_cons_zero, List.set_cons_succ]
  refine take_as 7 (some 12) (v := ?_) rfl rfl (by kernel_rfl) (by kernel_rfl) (by kernel_rfl) (fun _ _ _ h => h) (Or.inl ⟨by rfl, ?_⟩) (by assumption) ?_
  rotate_left 1
  · intro w2 hSw
    go_simp
    try with_reducible rfl
  try simp only [Act.put, List.setIfInBounds_toArray, List.set_cons_zero, List.set_cons_succ]
  refine take_as 8 (some 13) (v := ?_) rfl rfl (by kernel_rfl) (by kernel_rfl) (by kernel_rfl) (fun _ _ _ h => h) (Or.inl ⟨by rfl, ?_⟩) (by assumption) ?_
  rotate_left 1
  · intro w2 hSw
    have hl := hSw.2.1 1 _ rfl
    go_simp
    try with_reducible rfl
  try simp only [Act.put, List.setIfInBounds_toArray, List.set_cons_zero, List.set_cons_succ]
  refine take_as 10 (some 15) (v := ?_) rfl rfl (by kernel_rfl) (by kernel_rfl) (by kernel_rfl) (fun _ _ _ h => h) (Or.inl ⟨by rfl, ?_⟩) (by assumption) ?_
  rotate_left 1
  · intro w2 hSw
    go_simp
    try with_reducible rfl
  try simp only [Act.put, List.setIfInBounds_toArray, List.set_cons_zero, List.set_cons_succ]
  refine take_as 11 (some 16) (v := ?_) rfl rfl (by kernel_rfl) (by kernel_rfl) (by kernel_rfl) (fun _ _ _ h => h) (Or.inl ⟨by rfl, ?_⟩) (by assumption) ?_
  rotate_left 1
  · intro w2 hSw
    have hl := hSw.1.1 2 _ rfl
    go_simp
    try with_reducible rfl
  try simp only [Act.put, List.setIfInBounds_toArray, List.set_cons_zero, List.set_cons_succ]
  refine take_as 12 (some 17) (v := ?_) rfl rfl (by kernel_rfl) (by kernel_rfl) (by kernel_rfl) (fun _ _ _ h => h) (Or.inl ⟨by rfl, ?_⟩) (by assumption) ?_
  rotate_left 1
  · intro w2 hSw
    go_simp
    try with_reducible rfl
  try simp only [Act.put, List.setIfInBounds_toArray, List.set_cons_zero, List.set_cons_succ]
  refine take_as 13 (some 18) (v := ?_) rfl rfl (by kernel_rfl) (by kernel_rfl) (by kernel_rfl) (fun _ _ _ h => h) (Or.inl ⟨by rfl, ?_⟩) (by assumption) ?_
  rotate_left 1
  · intro w2 hSw
    have hl := hSw.2.1 2 _ rfl
    go_simp
    try with_reducible rfl
  try simp only [Act.put, List.setIfInBounds_toArray, List.set_cons_zero, List.set_cons_succ]
  refine wpAnyH_ready (rs := [4]) (by kernel_rfl) (by simp) ?_
  refine AllReadyH.cons rfl (fun K hK => ?_) ?_
  · go_simp
    refine (Tryz.cmp_Compare_int _ _ _).mono ?_
    rintro e w1 ⟨rfl, hwx⟩
    have HB1 : Hid (Below W.heap.size W w1) := hide (by rw [hwx]; exact HB0.out)
    have DHB1 : Hid (w.drawn ≤ w1.drawn) := hide (by rw [hwx]; exact DHB0.out)
    replace H2 : Hid (BoxAt w1 w.heap.size (prV p)) := hide (by rw [hwx]; exact H2.out)
    replace H3 : Hid (BoxAt w1 (w.heap.size + 1) (prV q)) := hide (by rw [hwx]; exact H3.out)
    clear hwx
    go_wp2_with fail
    refine hK.out _ _ ?_ (fun hHeld => ?_)
    · exact ⟨H2.out, H3.out⟩
    clear hK K
    try simp only [Act.put, List.setIfInBounds_toArray, List.set_cons_zero, List.set_cons_succ]
    refine wpAnyH_ready (rs := [9]) (by kernel_rfl) (by simp) ?_
    refine AllReadyH.cons rfl (fun K hK => ?_) ?_
    · go_simp
      refine (Tryz.cmp_Compare_int _ _ _).mono ?_
      rintro e w2 ⟨rfl, hwx⟩
      have HB2 : Hid (Below W.heap.size W w2) := hide (by rw [hwx]; exact HB1.out)
      have DHB2 : Hid (w.drawn ≤ w2.drawn) := hide (by rw [hwx]; exact DHB1.out)
      replace H2 : Hid (BoxAt w2 w.heap.size (prV p)) := hide (by rw [hwx]; exact H2.out)
      replace H3 : Hid (BoxAt w2 (w.heap.size + 1) (prV q)) := hide (by rw [hwx]; exact H3.out)
      clear hwx
      go_wp2_with fail
      refine hK.out _ _ ?_ (fun hHeld => ?_)
      · exact ⟨H2.out, H3.out⟩
      clear hK K
      try simp only [Act.put, List.setIfInBounds_toArray, List.set_cons_zero, List.set_cons_succ]
      refine wpAnyH_ready (rs := [14]) (by kernel_rfl) (by simp) ?_
      refine AllReadyH.cons rfl (fun K hK => ?_) ?_
      · go_simp
        refine (Tryz.cmp_Compare_int _ _ _).mono ?_
        rintro e w3 ⟨rfl, hwx⟩
        have HB3 : Hid (Below W.heap.size W w3) := hide (by rw [hwx]; exact HB2.out)
        have DHB3 : Hid (w.drawn ≤ w3.drawn) := hide (by rw [hwx]; exact DHB2.out)
        replace H2 : Hid (BoxAt w3 w.heap.size (prV p)) := hide (by rw [hwx]; exact H2.out)
        replace H3 : Hid (BoxAt w3 (w.heap.size + 1) (prV q)) := hide (by rw [hwx]; exact H3.out)
        clear hwx
        go_wp2_with fail
        refine hK.out _ _ ?_ (fun hHeld => ?_)
        · exact ⟨H2.out, H3.out⟩
        clear hK K
        try simp only [Act.put, List.setIfInBounds_toArray, List.set_cons_zero, List.set_cons_succ]
        refine wpAnyH_ready (rs := [15]) (by kernel_rfl) (by simp) ?_
        refine AllReadyH.cons rfl (fun K hK => ?_) ?_
        · go_simp
          refine name_world (fun w4 hwn => ?_)
          have hbn : Below w3.heap.size w3 w4 := by rw [hwn]; exact (Below.refl _ _).alloc (Nat.le_refl _) _
          have HQ : Hid (BoxAt w4 w3.heap.size [.int .i64 (Lib.compareInt p.1 q.1), .int .i64 (Lib.compareInt p.2.1 q.2.1), .int .i64 (Lib.compareInt p.2.2 q.2.2)]) := hide (by rw [hwn]; exact BoxAt.new _ _ _)
          have HB4 : Hid (Below W.heap.size W w4) := hide (HB3.out.trans (hbn.mono HB3.out.size))
          have DHB4 : Hid (w.drawn ≤ w4.drawn) := hide (by rw [hwn]; exact DHB3.out)
          replace H2 := hide (H2.out.below hbn)
          replace H3 := hide (H3.out.below hbn)
          clear hbn hwn
          refine hK.out _ _ ?_ (fun hHeld => ?_)
          · exact ⟨H2.out, H3.out⟩
          clear hK K
          try simp only [Act.put, List.setIfInBounds_toArray, List.set_cons_zero, List.set_cons_succ]
          refine wpAnyH_ready (rs := [16]) (by kernel_rfl) (by simp) ?_
          refine AllReadyH.cons rfl (fun K hK => ?_) ?_
          · go_simp
            refine (or_three _ _ _ _ 3 _ HQ.out).mono ?_
            rintro e w5 ⟨rfl, hwx⟩
            have HB5 : Hid (Below W.heap.size W w5) := hide (by rw [← hwx]; exact HB4.out)
            have DHB5 : Hid (w.drawn ≤ w5.drawn) := hide (by rw [← hwx]; exact DHB4.out)
            replace H2 : Hid (BoxAt w5 w.heap.size (prV p)) := hide (by rw [← hwx]; exact H2.out)
            replace H3 : Hid (BoxAt w5 (w.heap.size + 1) (prV q)) := hide (by rw [← hwx]; exact H3.out)
            clear hwx
            go_wp2_with fail
            refine hK.out _ _ ?_ (fun hHeld => ?_)
            · exact ⟨H2.out, H3.out⟩
            clear hK K
            try simp only [Act.put, List.setIfInBounds_toArray, List.set_cons_zero, List.set_cons_succ]
            refine take_as 17 (some 4) (v := ?_) rfl rfl (by kernel_rfl) (by kernel_rfl) (by kernel_rfl) (fun _ _ _ h => h) (Or.inl ⟨by rfl, ?_⟩) (by assumption) ?_
            rotate_left 1
            · intro w2 hSw
              go_simp
              try with_reducible rfl
            try simp only [Act.put, List.setIfInBounds_toArray, List.set_cons_zero, List.set_cons_succ]
            refine wpAnyH_done (by kernel_rfl) ?_ _
            go_wp2_with fail
            go_ret
            exact ⟨rfl, grown_of (HbW.out.trans (HB5.out.mono HbW.out.size)) DHB5.out⟩
          exact AllReadyH.nil
        exact AllReadyH.nil
      exact AllReadyH.nil
    exact AllReadyH.nil
  exact AllReadyH.nil
set_option maxRecDepth 100000 in
set_option maxHeartbeats 4000000 in
theorem order_find_g (p q : Int × Int × Int) (w : World) : Calls Tryz.prog 79 #[.agg (prV p).toArray, .agg (prV q).toArray] w fun e w' => e = .returned (.int .i64 (prCmp p q)) ∧ ∃ q os, w' = Sort.grow (w.drewN q) os := by
  have hbs : ∀ (W : World) (x y z : Int), (Instr.buildSlice 42 3 #[(0, .int .i64 x), (1, .int .i64 y), (2, .int .i64 z)]).run Tryz.prog W = .ok (.slice (some ⟨W.heap.size, 0, none⟩) 3 3) (W.alloc (.cells #[.int .i64 x, .int .i64 y, .int .i64 z] 3)) := fun _ _ _ _ => by kernel_rfl
  go_enter Tryz.func79, Tryz.ntmps79
  simp only [prV]
  go_upto_region 1 with (fail)
  obtain ⟨W, hW⟩ : ∃ V, V = (w.alloc (.cells (prV p).toArray 54)).alloc (.cells (prV q).toArray 54) := ⟨_, rfl⟩
  have hb2 := boxes2 w _ _ _ _ W hW
  have hdw : W.drawn = w.drawn := by rw [hW]; rfl
  have hW' := hW
  simp only [prV] at hW'
  rw [← hW']
  clear hW hW'
  obtain ⟨b2, b3, hz, hbW⟩ := hb2
  have H2 := hide b2
  have H3 := hide b3
  have HbW := hide hbW
  have Hz := hide hz
  have Hdw := hide hdw
  clear b2 b3 hz hbW hdw
  refine wp_region_held_drew (S := fun w' => BoxAt w' w.heap.size (prV p) ∧ BoxAt w' (w.heap.size + 1) (prV q)) (by kernel_rfl) ?_ (fun hHeld => ?_)
  · exact ⟨H2.out.below (Below.refl _ _).drew, H3.out.below (Below.refl _ _).drew⟩
  generalize hw0 : World.drew W = w0 at hHeld ⊢
  have HB0 : Hid (Below W.heap.size W w0) := hide (by rw [← hw0]; exact (Below.refl _ W).drew)
  have DHB0 : Hid (w.drawn ≤ w0.drawn) := hide (by rw [← hw0]; show w.drawn ≤ W.drawn + 1; have := Hdw.out; omega)
  replace H2 := hide (H2.out.below HB0.out)
  replace H3 := hide (H3.out.below HB0.out)
  clear hw0
  refine take_as 0 (some 5) (v := ?_) rfl rfl (by kernel_rfl) (by kernel_rfl) (by kernel_rfl) (fun _ _ _ h => h) (Or.inl ⟨by rfl, ?_⟩) (by assumption) ?_
  rotate_left 1
  · intro w2 hSw
    go_simp
    try with_reducible rfl
  try simp only [Act.put, List.setIfInBounds_toArray, List.set_cons_zero, List.set_cons_succ]
  refine take_as 1 (some 6) (v := ?_) rfl rfl (by kernel_rfl) (by kernel_rfl) (by kernel_rfl) (fun _ _ _ h => h) (Or.inl ⟨by rfl, ?_⟩) (by assumption) ?_
  rotate_left 1
  · intro w2 hSw
    have hl := hSw.1.1 0 _ rfl
    go_simp
    try with_reducible rfl
  try simp only [Act.put, List.setIfInBounds_toArray, List.set_cons_zero, List.set_cons_succ]
  refine take_as 2 (some 7) (v := ?_) rfl rfl (by kernel_rfl) (by kernel_rfl) (by kernel_rfl) (fun _ _ _ h => h) (Or.inl ⟨by rfl, ?_⟩) (by assumption) ?_
  rotate_left 1
  · intro w2 hSw
    go_simp
    try with_reducible rfl
  try simp only [Act.put, List.setIfInBounds_toArray, List.set_cons_zero, List.set_cons_succ]
  refine take_as 3 (some 8) (v := ?_) rfl rfl (by kernel_rfl) (by kernel_rfl) (by kernel_rfl) (fun _ _ _ h => h) (Or.inl ⟨by rfl, ?_⟩) (by assumption) ?_
  rotate_left 1
  · intro w2 hSw
    have hl := hSw.2.1 0 _ rfl
    go_simp
    try with_reducible rfl
  try simp only [Act.put, List.setIfInBounds_toArray, List.set_cons_zero, List.set_cons_succ]
  refine take_as 5 (some 10) (v := ?_) rfl rfl (by kernel_rfl) (by kernel_rfl) (by kernel_rfl) (fun _ _ _ h => h) (Or.inl ⟨by rfl, ?_⟩) (by assumption) ?_
  rotate_left 1
  · intro w2 hSw
    go_simp
    try with_reducible rfl
  try simp only [Act.put, List.setIfInBounds_toArray, List.set_cons_zero, List.set_cons_succ]
  refine take_as 6 (some 11) (v := ?_) rfl rfl (by kernel_rfl) (by kernel_rfl) (by kernel_rfl) (fun _ _ _ h => h) (Or.inl ⟨by rfl, ?_⟩) (by assumption) ?_
  rotate_left 1
  · intro w2 hSw
    have hl := hSw.1.1 1 _ rfl
    go_simp
    try with_reducible rfl
  try simp only [Act.put, List.setIfInBounds_toArray, List.set_cons_zero, List.set_cons_succ]
  refine take_as 7 (some 12) (v := ?_) rfl rfl (by kernel_rfl) (by kernel_rfl) (by kernel_rfl) (fun _ _ _ h => h) (Or.inl ⟨by rfl, ?_⟩) (by assumption) ?_
  rotate_left 1
  · intro w2 hSw
    go_simp
    try with_reducible rfl
  try simp only [Act.put, List.setIfInBounds_toArray, List.set_cons_zero, List.set_cons_succ]
  refine take_as 8 (some 13) (v := ?_) rfl rfl (by kernel_rfl) (by kernel_rfl) (by kernel_rfl) (fun _ _ _ h => h) (Or.inl ⟨by rfl, ?_⟩) (by assumption) ?_
  rotate_left 1
  · intro w2 hSw
    have hl := hSw.2.1 1 _ rfl
    go_simp
    try with_reducible rfl
  try simp only [Act.put, List.setIfInBounds_toArray, List.set_cons_zero, List.set_cons_succ]
  refine take_as 10 (some 15) (v := ?_) rfl rfl (by kernel_rfl) (by kernel_rfl) (by kernel_rfl) (fun _ _ _ h => h) (Or.inl ⟨by rfl, ?_⟩) (by assumption) ?_
  rotate_left 1
  · intro w2 hSw
    go_simp
    try with_reducible rfl
  try simp only [Act.put, List.setIfInBounds_toArray, List.set_cons_zero, List.set_cons_succ]
  refine take_as 11 (some 16) (v := ?_) rfl rfl (by kernel_rfl) (by kernel_rfl) (by kernel_rfl) (fun _ _ _ h => h) (Or.inl ⟨by rfl, ?_⟩) (by assumption) ?_
  rotate_left 1
  · intro w2 hSw
    have hl := hSw.1.1 2 _ rfl
    go_simp
    try with_reducible rfl
  try simp only [Act.put, List.setIfInBounds_toArray, List.set_cons_zero, List.set_cons_succ]
  refine take_as 12 (some 17) (v := ?_) rfl rfl (by kernel_rfl) (by kernel_rfl) (by kernel_rfl) (fun _ _ _ h => h) (Or.inl ⟨by rfl, ?_⟩) (by assumption) ?_
  rotate_left 1
  · intro w2 hSw
    go_simp
    try with_reducible rfl
  try simp only [Act.put, List.setIfInBounds_toArray, List.set_cons_zero, List.set_cons_succ]
  refine take_as 13 (some 18) (v := ?_) rfl rfl (by kernel_rfl) (by kernel_rfl) (by kernel_rfl) (fun _ _ _ h => h) (Or.inl ⟨by rfl, ?_⟩) (by assumption) ?_
  rotate_left 1
  · intro w2 hSw
    have hl := hSw.2.1 2 _ rfl
    go_simp
    try with_reducible rfl
  try simp only [Act.put, List.setIfInBounds_toArray, List.set_cons_zero, List.set_cons_succ]
  refine wpAnyH_ready (rs := [4]) (by kernel_rfl) (by simp) ?_
  refine AllReadyH.cons rfl (fun K hK => ?_) ?_
  · go_simp
    refine (Tryz.cmp_Compare_int _ _ _).mono ?_
    rintro e w1 ⟨rfl, hwx⟩
    have HB1 : Hid (Below W.heap.size W w1) := hide (by rw [hwx]; exact HB0.out)
    have DHB1 : Hid (w.drawn ≤ w1.drawn) := hide (by rw [hwx]; exact DHB0.out)
    replace H2 : Hid (BoxAt w1 w.heap.size (prV p)) := hide (by rw [hwx]; exact H2.out)
    replace H3 : Hid (BoxAt w1 (w.heap.size + 1) (prV q)) := hide (by rw [hwx]; exact H3.out)
    clear hwx
    go_wp2_with fail
    refine hK.out _ _ ?_ (fun hHeld => ?_)
    · exact ⟨H2.out, H3.out⟩
    clear hK K
    try simp only [Act.put, List.setIfInBounds_toArray, List.set_cons_zero, List.set_cons_succ]
    refine wpAnyH_ready (rs := [9]) (by kernel_rfl) (by simp) ?_
    refine AllReadyH.cons rfl (fun K hK => ?_) ?_
    · go_simp
      refine (Tryz.cmp_Compare_int _ _ _).mono ?_
      rintro e w2 ⟨rfl, hwx⟩
      have HB2 : Hid (Below W.heap.size W w2) := hide (by rw [hwx]; exact HB1.out)
      have DHB2 : Hid (w.drawn ≤ w2.drawn) := hide (by rw [hwx]; exact DHB1.out)
      replace H2 : Hid (BoxAt w2 w.heap.size (prV p)) := hide (by rw [hwx]; exact H2.out)
      replace H3 : Hid (BoxAt w2 (w.heap.size + 1) (prV q)) := hide (by rw [hwx]; exact H3.out)
      clear hwx
      go_wp2_with fail
      refine hK.out _ _ ?_ (fun hHeld => ?_)
      · exact ⟨H2.out, H3.out⟩
      clear hK K
      try simp only [Act.put, List.setIfInBounds_toArray, List.set_cons_zero, List.set_cons_succ]
      refine wpAnyH_ready (rs := [14]) (by kernel_rfl) (by simp) ?_
      refine AllReadyH.cons rfl (fun K hK => ?_) ?_
      · go_simp
        refine (Tryz.cmp_Compare_int _ _ _).mono ?_
        rintro e w3 ⟨rfl, hwx⟩
        have HB3 : Hid (Below W.heap.size W w3) := hide (by rw [hwx]; exact HB2.out)
        have DHB3 : Hid (w.drawn ≤ w3.drawn) := hide (by rw [hwx]; exact DHB2.out)
        replace H2 : Hid (BoxAt w3 w.heap.size (prV p)) := hide (by rw [hwx]; exact H2.out)
        replace H3 : Hid (BoxAt w3 (w.heap.size + 1) (prV q)) := hide (by rw [hwx]; exact H3.out)
        clear hwx
        go_wp2_with fail
        refine hK.out _ _ ?_ (fun hHeld => ?_)
        · exact ⟨H2.out, H3.out⟩
        clear hK K
        try simp only [Act.put, List.setIfInBounds_toArray, List.set_cons_zero, List.set_cons_succ]
        refine wpAnyH_ready (rs := [15]) (by kernel_rfl) (by simp) ?_
        refine AllReadyH.cons rfl (fun K hK => ?_) ?_
        · go_simp
          refine name_world (fun w4 hwn => ?_)
          have hbn : Below w3.heap.size w3 w4 := by rw [hwn]; exact (Below.refl _ _).alloc (Nat.le_refl _) _
          have HQ : Hid (BoxAt w4 w3.heap.size [.int .i64 (Lib.compareInt p.1 q.1), .int .i64 (Lib.compareInt p.2.1 q.2.1), .int .i64 (Lib.compareInt p.2.2 q.2.2)]) := hide (by rw [hwn]; exact BoxAt.new _ _ _)
          have HB4 : Hid (Below W.heap.size W w4) := hide (HB3.out.trans (hbn.mono HB3.out.size))
          have DHB4 : Hid (w.drawn ≤ w4.drawn) := hide (by rw [hwn]; exact DHB3.out)
          replace H2 := hide (H2.out.below hbn)
          replace H3 := hide (H3.out.below hbn)
          clear hbn hwn
          refine hK.out _ _ ?_ (fun hHeld => ?_)
          · exact ⟨H2.out, H3.out⟩
          clear hK K
          try simp only [Act.put, List.setIfInBounds_toArray, List.set_cons_zero, List.set_cons_succ]
          refine wpAnyH_ready (rs := [16]) (by kernel_rfl) (by simp) ?_
          refine AllReadyH.cons rfl (fun K hK => ?_) ?_
          · go_simp
            refine (or_three _ _ _ _ 3 _ HQ.out).mono ?_
            rintro e w5 ⟨rfl, hwx⟩
            have HB5 : Hid (Below W.heap.size W w5) := hide (by rw [← hwx]; exact HB4.out)
            have DHB5 : Hid (w.drawn ≤ w5.drawn) := hide (by rw [← hwx]; exact DHB4.out)
            replace H2 : Hid (BoxAt w5 w.heap.size (prV p)) := hide (by rw [← hwx]; exact H2.out)
            replace H3 : Hid (BoxAt w5 (w.heap.size + 1) (prV q)) := hide (by rw [← hwx]; exact H3.out)
            clear hwx
            go_wp2_with fail
            refine hK.out _ _ ?_ (fun hHeld => ?_)
            · exact ⟨H2.out, H3.out⟩
            clear hK K
            try simp only [Act.put, List.setIfInBounds_toArray, List.set_cons_zero, List.set_cons_succ]
            refine take_as 17 (some 4) (v := ?_) rfl rfl (by kernel_rfl) (by kernel_rfl) (by kernel_rfl) (fun _ _ _ h => h) (Or.inl ⟨by rfl, ?_⟩) (by assumption) ?_
            rotate_left 1
            · intro w2 hSw
              go_simp
              try with_reducible rfl
            try simp only [Act.put, List.setIfInBounds_toArray, List.set_cons_zero, List.set_cons_succ]
            refine wpAnyH_done (by kernel_rfl) ?_ _
            go_wp2_with fail
            go_ret
            exact ⟨rfl, grown_of (HbW.out.trans (HB5.out.mono HbW.out.size)) DHB5.out⟩
          exact AllReadyH.nil
        exact AllReadyH.nil
      exact AllReadyH.nil
    exact AllReadyH.nil
  exact AllReadyH.nil

end Go.Proofs.YthhfakkfdohcpaaGreat
/- slices.Clone at pairs. No condition. -/
namespace Go.Proofs.YthhfakkfdohcpaaGreat
open Go.RowKit Go.ChangeMaps Go.MapKept
theorem prs_len (ps : List (Int × Int × Int)) : (ps.flatMap prV).length = ps.length * 3 := by
  induction ps with
  | nil => rfl
  | cons a ps ih => rw [List.flatMap_cons, List.length_append, ih]; show 3 + ps.length * 3 = (ps.length + 1) * 3; omega
theorem prs_one (ps : List (Int × Int × Int)) : ∀ u ∈ ps.flatMap prV, u.oneCell' = true := by
  intro u hu
  obtain ⟨p, -, hp⟩ := List.mem_flatMap.1 hu
  exact prV_one u hp
set_option maxRecDepth 100000 in
set_option maxHeartbeats 2000000 in
theorem clone_pairs (ps : List (Int × Int × Int)) (pb c : Nat) (w : World) (h0 : 0 < ps.length) (hn : ps.length ≤ 100) (hp : PrsAt w pb ps) :
    Calls Tryz.prog 14 #[.slice (some ⟨pb, 0, none⟩) ps.length c] w fun e w' => ∃ g cap, e = .returned (.slice (some ⟨g, 0, none⟩) ps.length cap) ∧ w'.ownsRow w.heap.size 29 3 (.slice (some ⟨g, 0, none⟩) ps.length cap) ps.length (ps.flatMap prV) ∧ Below w.heap.size w w' := by
  have He := fun W => Lib.run_eql_slice_nil (P := Tryz.prog) W 24 29 (some ⟨pb, 0, none⟩) ps.length c 0 0 Tryz.underlying24
  have hb0 : ∀ W, (Instr.buildSlice 24 0 #[]).run Tryz.prog W = .ok (.slice (some ⟨W.heap.size, 0, none⟩) 0 0) (W.alloc (.cells #[] 29)) := fun _ => by kernel_rfl
  have hal : Below w.heap.size w (w.alloc (.cells #[] 29)) := (Below.refl _ w).alloc (Nat.le_refl _) _
  have hO : (w.alloc (.cells #[] 29)).ownsRow w.heap.size 29 3 (.slice (some ⟨w.heap.size, 0, none⟩) 0 0) 0 [] :=
    ⟨by simp, .inr ⟨w.heap.size, 0, #[], rfl, Nat.le_refl _, Go.heap_alloc_new w _, by omega, by unfold maxLen; omega, rfl, rfl⟩⟩
  have HP := hide (BoxAt.below hp hal)
  have HO := hide hO
  have HA := hide hal
  clear hp hO
  go_enter Tryz.func14, Tryz.ntmps14
  go_wp2_with (first
    | ((with_reducible refine wpList_append_to ?_ ?_ (.tmp 5) (.tmp 6) 24 29 3 24 elemPair ?_ w.heap.size _ 0 [] ?_ HO.out pb ps.length c (ps.flatMap prV) ?_ ?_ ?_ ?_ ?_ ?_ ?_ ?_); (focus rfl); (focus rfl); (focus rfl); (focus rfl); (focus rfl); (focus exact HP.out); (focus exact prs_len ps); (focus exact prs_one ps); (focus exact h0); (focus omega); (focus exact hal.size); intro gn cn V hap; have Hap := hide hap; clear hap))
  go_ret
  refine ⟨gn, cn, rfl, ?_, HA.out.trans (Hap.out.but.below HA.out.size (fun k hk => (HO.out.lt k hk).1))⟩
  have := Hap.out.own
  rw [Nat.zero_add, List.nil_append] at this
  exact this
end Go.Proofs.YthhfakkfdohcpaaGreat
/- Rows of triples, sorted by the library. No condition. -/
namespace Go.Proofs.YthhfakkfdohcpaaGreat
open Go.RowKit Go.Shelf Go.Lib Go.Sort
abbrev Tri := Int × Int × Int
theorem prs_get (ps : List Tri) (j : Nat) (h : j < ps.length * 3) : (ps.flatMap prV)[j]? = some ((prV (ps[j / 3]!))[j % 3]!) := by
  have hj : j / 3 < ps.length := by omega
  have hs : ps[j / 3]? = some ps[j / 3] := List.getElem?_eq_getElem hj
  have hf := flat3_at ps (j / 3) _ hs
  have e : (ps.flatMap prV)[j]? = (prV ps[j / 3])[j % 3]? := by
    rw [← hf, List.getElem?_take, if_pos (by omega), List.getElem?_drop]
    congr 1
    omega
  rw [e, getElem!_pos ps _ hj]
  have : j % 3 = 0 ∨ j % 3 = 1 ∨ j % 3 = 2 := by omega
  rcases this with h | h | h <;> rw [h] <;> rfl
theorem prs_holds {W : World} {pb : Nat} {ps : List Tri} (h : PrsAt W pb ps) : HoldsK prV 3 W pb 0 ps.toArray := fun j hj => by
  rw [size_flatK] at hj
  have hj' : j < ps.length * 3 := by simpa using hj
  refine ⟨?_, h.2.1 _⟩
  rw [get_flatK _ _ _ _ hj, Nat.zero_add]
  refine h.1 j _ ?_
  rw [prs_get ps j hj']
  simp
theorem holds_prs {W : World} {pb : Nat} {d : Array Tri} (h : HoldsK prV 3 W pb 0 d) (hf : ∀ o, W.frozen? ⟨pb, o, none⟩ = false) (hb : pb < W.heap.size) : PrsAt W pb d.toList := by
  refine ⟨fun i v hv => ?_, hf, hb⟩
  have hi : i < d.toList.length * 3 := by
    have := (List.getElem?_eq_some_iff.1 hv).1
    rw [prs_len] at this
    exact this
  have hi' : i < d.size * 3 := by simpa using hi
  rw [prs_get _ _ hi] at hv
  injection hv with hv
  have hc := (h i (by rw [size_flatK]; exact hi')).1
  rw [get_flatK _ _ _ _ hi', Nat.zero_add] at hc
  rw [hc, ← hv, show d.toList[i / 3]! = d[i / 3]! by rw [getElem!_pos d.toList _ (by rw [Array.length_toList]; omega), getElem!_pos d _ (by omega)]; simp]
  rfl
theorem sortW_but {W : World} {pb : Nat} (d' : Array Tri) (n : Nat) (os : Array Obj) : But (fun k => k = pb) W (sortWorldK prV 3 W pb 0 n d' os) := by
  refine ⟨rfl, rfl, rfl, size_sortWorldK_c prV 3 W pb 0 n d' os, fun k hk hne => ?_⟩
  unfold sortWorldK
  rw [heap_grow_old _ _ (by rw [size_putRowK]; exact hk)]
  show (mapBlock (Sort.ahead W n) pb _).heap[k]? = _
  unfold mapBlock
  simp only [Array.getElem?_modify]
  rw [if_neg (fun e => hne e.symm)]
  rfl
theorem sortW_prs {W : World} {pb : Nat} {ps : List Tri} (d' : Array Tri) (n : Nat) (os : Array Obj) (h : PrsAt W pb ps) (hs : d'.size = ps.length) : PrsAt (sortWorldK prV 3 W pb 0 n d' os) pb d'.toList := by
  have hb : pb < W.heap.size := h.2.2
  refine holds_prs (holdsK_sortWorldK prV 3 W pb 0 n ps.toArray d' os hb (prs_holds h) (by simpa using hs)) (fun o => ?_) (lt_sortWorldK prV 3 W pb 0 n d' os hb)
  unfold sortWorldK
  rw [frozen?_grow _ _ _ (by rw [size_putRowK]; exact hb)]
  show (putRow id (Sort.ahead W n) pb 0 _).frozen? _ = false
  rw [frozen?_putRow]
  exact h.2.1 o
theorem ltOf_cmp (p q : Tri) : ltOf prCmp p q = true ↔ p.1 < q.1 ∨ (p.1 = q.1 ∧ (p.2.1 < q.2.1 ∨ (p.2.1 = q.2.1 ∧ p.2.2 < q.2.2))) := by
  unfold ltOf prCmp or3 Lib.compareInt
  rw [decide_eq_true_iff]
  by_cases h1 : p.1 < q.1
  · simp [h1]
  · by_cases h2 : q.1 < p.1
    · simp [h1, h2]
      omega
    · have e1 : p.1 = q.1 := by omega
      by_cases h3 : p.2.1 < q.2.1
      · simp [e1, h3]
      · by_cases h4 : q.2.1 < p.2.1
        · simp [e1, h3, h4]
          omega
        · have e2 : p.2.1 = q.2.1 := by omega
          by_cases h5 : p.2.2 < q.2.2
          · simp [e1, e2, h5]
          · by_cases h6 : q.2.2 < p.2.2
            · simp [e1, e2, h5, h6]
            · simp [e1, e2, h5, h6]
def Tlt (p q : Tri) : Prop := p.1 < q.1 ∨ (p.1 = q.1 ∧ (p.2.1 < q.2.1 ∨ (p.2.1 = q.2.1 ∧ p.2.2 < q.2.2)))
theorem tlt_tri (x y : Tri) : Tlt x y ∨ x = y ∨ Tlt y x := by
  obtain ⟨x1, x2, x3⟩ := x
  obtain ⟨y1, y2, y3⟩ := y
  by_cases h1 : x1 = y1
  · by_cases h2 : x2 = y2
    · by_cases h3 : x3 = y3
      · exact .inr (.inl (by rw [h1, h2, h3]))
      · unfold Tlt; simp only; omega
    · unfold Tlt; simp only; omega
  · unfold Tlt; simp only; omega
theorem tlt_asymm {x y : Tri} (h : Tlt x y) (k : Tlt y x) : False := by unfold Tlt at h k; omega
theorem tlt_irrefl {x : Tri} (h : Tlt x x) : False := tlt_asymm h h
theorem tle_trans {x y z : Tri} (h : ¬ Tlt y x) (k : ¬ Tlt z y) : ¬ Tlt z x := by unfold Tlt at *; omega
theorem ltOf_false (p q : Tri) : ltOf prCmp p q = false ↔ ¬ Tlt p q := by
  rw [← Bool.not_eq_true, ltOf_cmp]
  rfl
theorem swo_tri : SWO (ltOf prCmp) := {
  irrefl := fun x => by rw [ltOf_false]; unfold Tlt; omega
  trans := fun x y z h1 h2 => by rw [ltOf_cmp] at *; omega
  ntrans := fun x y z h1 h2 => by rw [ltOf_false] at *; unfold Tlt at *; omega }
/-- Sorted: no later one is less than an earlier one. -/
def Tsorted (rs : List Tri) : Prop := rs.Pairwise fun x y => ¬ Tlt y x
theorem tsorted_of {d : Array Tri} {n : Nat} (hn : d.size = n) (h : SortedIn (ltOf prCmp) 0 n d) : Tsorted d.toList := by
  unfold Tsorted
  rw [List.pairwise_iff_getElem]
  intro i j hi hj hij
  have h1 : i < d.size := by simpa using hi
  have h2 : j < d.size := by simpa using hj
  have := (ltOf_false _ _).1 (h i j (Nat.zero_le _) hij (by omega))
  rw [getElem!_pos d i h1, getElem!_pos d j h2] at this
  simpa using this
theorem tri_one : ∀ x, ∀ v ∈ prV x, v.oneCell' = true := fun _ => prV_one
theorem sort_end {pb n : Nat} {ps : List Tri} {w w' : World} {d' : Array Tri} {k : Nat} {os : Array Obj} (h : PrsAt w pb ps) (hn : n = ps.length) (hp : PermIn 0 n ps.toArray d') (hs : SortedIn (ltOf prCmp) 0 n d') (hw : w' = sortWorldK prV 3 w pb 0 k d' os) :
    ∃ rs, rs.Perm ps ∧ Tsorted rs ∧ PrsAt w' pb rs ∧ But (fun k => k = pb) w w' := by
  subst hn hw
  obtain ⟨h1, -, h3⟩ := hp
  have hz : d'.size = ps.length := by simpa using h1
  refine ⟨d'.toList, ?_, tsorted_of hz hs, sortW_prs d' k os h hz, sortW_but d' k os⟩
  have e1 : (d'.extract 0 ps.length).toList = d'.toList := by rw [← hz]; simp
  have e2 : (ps.toArray.extract 0 ps.length).toList = ps := by simp
  rw [e1, e2] at h3
  exact h3
theorem sort_pairs (ps : List Tri) (pb c : Nat) (w : World) (h : PrsAt w pb ps) (hn : ps.length ≤ 100) :
    Calls Tryz.prog 16 #[.slice (some ⟨pb, 0, none⟩) ps.length c, .func (.func 17) #[] #[]] w fun e w' => e = .returned (.tuple #[]) ∧ ∃ rs, rs.Perm ps ∧ Tsorted rs ∧ PrsAt w' pb rs ∧ But (fun k => k = pb) w w' := by
  have eg : ∀ args w, (callFunc 17 args).run Tryz.prog w = .ok (.enter 17 args) w := enters_of Tryz.func17 (by kernel_rfl) rfl
  have hcon := AnyQ.slices_SortFunc Tryz.sortPairL 3 Tryz.isAgg29 Tryz.sizeOf29 prV (fun _ => rfl) tri_one prCmp swo_tri 17 #[] pb 0 c ps.toArray w eg (fun _ _ _ _ x y => order_pair_g x y _) (prs_holds h) h.2.2 (by simp; omega)
  exact hcon.mono fun e w' ⟨he, d', n, os, hp, hs, hw⟩ => ⟨he, sort_end h (by simp) hp hs hw⟩
theorem sort_finds (ps : List Tri) (pb c : Nat) (w : World) (h : PrsAt w pb ps) (hn : ps.length ≤ 100) :
    Calls Tryz.prog 122 #[.slice (some ⟨pb, 0, none⟩) ps.length c, .func (.func 79) #[] #[]] w fun e w' => e = .returned (.tuple #[]) ∧ ∃ rs, rs.Perm ps ∧ Tsorted rs ∧ PrsAt w' pb rs ∧ But (fun k => k = pb) w w' := by
  have eg : ∀ args w, (callFunc 79 args).run Tryz.prog w = .ok (.enter 79 args) w := enters_of Tryz.func79 (by kernel_rfl) rfl
  have hcon := AnyQ.slices_SortFunc Tryz.sortFindL 3 Tryz.isAgg54 Tryz.sizeOf54 prV (fun _ => rfl) tri_one prCmp swo_tri 79 #[] pb 0 c ps.toArray w eg (fun _ _ _ _ x y => order_find_g x y _) (prs_holds h) h.2.2 (by simp; omega)
  exact hcon.mono fun e w' ⟨he, d', n, os, hp, hs, hw⟩ => ⟨he, sort_end h (by simp) hp hs hw⟩
theorem sort_pairs_none (A : Option Addr) (c : Nat) (f : Value) (w : World) : Calls Tryz.prog 16 #[.slice A 0 c, f] w fun e w' => e = .returned (.tuple #[]) ∧ w' = w :=
  AnyF.slices_SortFunc_none Tryz.sortPairL A c f w
theorem sort_finds_none (A : Option Addr) (c : Nat) (f : Value) (w : World) : Calls Tryz.prog 122 #[.slice A 0 c, f] w fun e w' => e = .returned (.tuple #[]) ∧ w' = w :=
  AnyF.slices_SortFunc_none Tryz.sortFindL A c f w
end Go.Proofs.YthhfakkfdohcpaaGreat
