/- The fact at the beginning. No condition. -/
import Derived.Test.YthhfakkfdohcpaaGreatM06
namespace Go.Proofs.YthhfakkfdohcpaaGreat
open Go.RowKit
theorem name_world {K : Act → World → Prop} {a : Act} {w' : World} (h : ∀ V, V = w' → K a V) : K a w' := h _ rfl
set_option maxRecDepth 100000 in
set_option maxHeartbeats 400000 in
theorem gap_new_emp (w : World) : Calls Tryz.prog 114 #[.int .i64 0, .int .i64 0] w fun e w' => ∃ A, e = .returned (.slice A 0 0) ∧ EmpA A 0 ∧ Below w.heap.size w w' := by
  have hmk : ∀ w, (Instr.makeSlice 161 (.int .i64 0) (.int .i64 0)).run Tryz.prog w = .ok (.slice (some ⟨w.heap.size, 0, none⟩) 0 0) (w.alloc (.cells #[] 42)) := fun _ => by kernel_rfl
  go_enter Tryz.func114, Tryz.ntmps114
  go_wp2
  go_rounds 1
  go_ret
  exact ⟨_, rfl, .inr ⟨_, _, rfl⟩, (by repeat (first | with_reducible exact Below.refl _ _ | with_reducible refine Below.setCell ?_ (by simp <;> omega) _ | with_reducible refine below_drewN ?_ _ | with_reducible refine Below.drew ?_ | with_reducible refine Below.alloc ?_ (by simp <;> omega) _ | with_reducible refine Below.setCell ?_ (by simp <;> omega) _ | with_reducible refine Below.alloc ?_ (by simp <;> omega) _ | omega | (simp; done)))⟩
set_option maxRecDepth 100000 in
set_option maxHeartbeats 8000000 in
theorem start_any (lv : Int) (hl : Lev lv) (id ds : Int) (nm : ByteArray) (Ab : Option Addr) (nb cb : Nat) (w : World) :
    Calls Tryz.prog 72 #[.agg (dfL id ds (.string nm) (.slice Ab nb cb)).toArray, .int .i64 lv] w fun e w' => ∃ A c Aa ca, e = .returned (.agg (fcL (.slice A 0 c) (.slice Aa 0 ca) 0 0 1).toArray) ∧ EmpA A c ∧ Below w.heap.size w w' := by
  have hmk : ∀ w, (Instr.makeSlice 42 (.int .i64 0) (.int .i64 0)).run Tryz.prog w = .ok (.slice (some ⟨w.heap.size, 0, none⟩) 0 0) (w.alloc (.cells #[] 3)) := fun _ => by kernel_rfl
  have Hl := hide hl; clear hl
  go_enter Tryz.func72, Tryz.ntmps72
  simp only [dfL]
  go_upto_region 1 with (fail)
  obtain ⟨W, hW⟩ : ∃ V, V = (w.alloc (.cells (dfL id ds (.string nm) (.slice Ab nb cb)).toArray 83)).alloc (.cells zeroL.toArray 164) := ⟨_, rfl⟩
  have hb2 := boxes2 w _ _ _ _ W hW
  have hW' := hW
  simp only [dfL, zeroL] at hW'
  rw [← hW']
  clear hW hW'
  obtain ⟨b2, b4, hz, hbW⟩ := hb2
  have B2 := hide b2
  have B4 := hide b4
  have HbW := hide hbW
  have Hz := hide hz
  clear b2 b4 hbW hz
  go_cut [5] (fun t wx => ∃ g A c Aa ca, t = .pointer (some ⟨g, 0, none⟩) ∧ EmpA A c ∧ BoxAt wx g (fcL (.slice A 0 c) (.slice Aa 0 ca) 0 0 1) ∧ W.heap.size ≤ g ∧ Below W.heap.size W wx)
  case first =>
    refine wp_region_held_drew (S := fun w' => BoxAt w' w.heap.size (dfL id ds (.string nm) (.slice Ab nb cb))) (by kernel_rfl) ?_ (fun hHeld => ?_)
    · exact B2.out.drew
    refine take_as 0 (some 10) (v := ?_) rfl rfl (by kernel_rfl) (by kernel_rfl) (by kernel_rfl) (fun _ _ _ h => h) (Or.inl ⟨by rfl, ?_⟩) (by assumption) ?_
    rotate_left 1
    · intro w2 hSw
      go_simp
      try with_reducible rfl
    try simp only [Act.put, List.setIfInBounds_toArray, List.set_cons_zero, List.set_cons_succ]
    refine take_as 1 (some 11) (v := ?_) rfl rfl (by kernel_rfl) (by kernel_rfl) (by kernel_rfl) (fun _ _ _ h => h) (Or.inl ⟨by rfl, ?_⟩) (by assumption) ?_
    rotate_left 1
    · intro w2 hSw
      have hl := hSw.1 7 _ rfl
      go_simp
      try with_reducible rfl
    try simp only [Act.put, List.setIfInBounds_toArray, List.set_cons_zero, List.set_cons_succ]
    refine take_as 2 (some 12) (v := ?_) rfl rfl (by kernel_rfl) (by kernel_rfl) (by kernel_rfl) (fun _ _ _ h => h) (Or.inl ⟨by rfl, ?_⟩) (by assumption) ?_
    rotate_left 1
    · intro w2 hSw
      go_simp
      try with_reducible rfl
    try simp only [Act.put, List.setIfInBounds_toArray, List.set_cons_zero, List.set_cons_succ]
    refine take_as 3 (some 13) (v := ?_) rfl rfl (by kernel_rfl) (by kernel_rfl) (by kernel_rfl) (fun _ _ _ h => h) (Or.inl ⟨by rfl, ?_⟩) (by assumption) ?_
    rotate_left 1
    · intro w2 hSw
      have hl := hSw.1 5 _ rfl
      go_simp
      try with_reducible rfl
    try simp only [Act.put, List.setIfInBounds_toArray, List.set_cons_zero, List.set_cons_succ]
    refine take_as 4 (some 14) (v := ?_) rfl rfl (by kernel_rfl) (by kernel_rfl) (by kernel_rfl) (fun _ _ _ h => h) (Or.inl ⟨by rfl, ?_⟩) (by assumption) ?_
    rotate_left 1
    · intro w2 hSw
      go_simp
      try with_reducible rfl
    try simp only [Act.put, List.setIfInBounds_toArray, List.set_cons_zero, List.set_cons_succ]
    refine take_as 6 (some 16) (v := ?_) rfl rfl (by kernel_rfl) (by kernel_rfl) (by kernel_rfl) (fun _ _ _ h => h) (Or.inl ⟨by rfl, ?_⟩) (by assumption) ?_
    rotate_left 1
    · intro w2 hSw
      go_simp
      try with_reducible rfl
    try simp only [Act.put, List.setIfInBounds_toArray, List.set_cons_zero, List.set_cons_succ]
    refine take_as 7 (some 17) (v := ?_) rfl rfl (by kernel_rfl) (by kernel_rfl) (by kernel_rfl) (fun _ _ _ h => h) (Or.inl ⟨by rfl, ?_⟩) (by assumption) ?_
    rotate_left 1
    · intro w2 hSw
      have hl := hSw.1 9 _ rfl
      go_simp
      try with_reducible rfl
    try simp only [Act.put, List.setIfInBounds_toArray, List.set_cons_zero, List.set_cons_succ]
    refine take_as 8 (some 18) (v := ?_) rfl rfl (by kernel_rfl) (by kernel_rfl) (by kernel_rfl) (fun _ _ _ h => h) (Or.inl ⟨by rfl, ?_⟩) (by assumption) ?_
    rotate_left 1
    · intro w2 hSw
      go_simp
      try with_reducible rfl
    try simp only [Act.put, List.setIfInBounds_toArray, List.set_cons_zero, List.set_cons_succ]
    refine take_as 10 (some 20) (v := ?_) rfl rfl (by kernel_rfl) (by kernel_rfl) (by kernel_rfl) (fun _ _ _ h => h) (Or.inl ⟨by rfl, ?_⟩) (by assumption) ?_
    rotate_left 1
    · intro w2 hSw
      go_simp
      try with_reducible rfl
    try simp only [Act.put, List.setIfInBounds_toArray, List.set_cons_zero, List.set_cons_succ]
    refine take_as 11 (some 21) (v := ?_) rfl rfl (by kernel_rfl) (by kernel_rfl) (by kernel_rfl) (fun _ _ _ h => h) (Or.inl ⟨by rfl, ?_⟩) (by assumption) ?_
    rotate_left 1
    · intro w2 hSw
      have hl := hSw.1 4 _ rfl
      go_simp
      try with_reducible rfl
    try simp only [Act.put, List.setIfInBounds_toArray, List.set_cons_zero, List.set_cons_succ]
    refine take_as 12 (some 22) (v := ?_) rfl rfl (by kernel_rfl) (by kernel_rfl) (by kernel_rfl) (fun _ _ _ h => h) (Or.inl ⟨by rfl, ?_⟩) (by assumption) ?_
    rotate_left 1
    · intro w2 hSw
      go_simp
      try with_reducible rfl
    try simp only [Act.put, List.setIfInBounds_toArray, List.set_cons_zero, List.set_cons_succ]
    refine take_as 13 (some 23) (v := ?_) rfl rfl (by kernel_rfl) (by kernel_rfl) (by kernel_rfl) (fun _ _ _ h => h) (Or.inl ⟨by rfl, ?_⟩) (by assumption) ?_
    rotate_left 1
    · intro w2 hSw
      go_simp
      try with_reducible rfl
    try simp only [Act.put, List.setIfInBounds_toArray, List.set_cons_zero, List.set_cons_succ]
    refine wpAnyH_ready (rs := [5, 9, 15]) (by kernel_rfl) (by simp) ?_
    refine AllReadyH.cons rfl (fun K hK => ?_) ?_
    · go_simp
      refine (gap_new_emp _).mono ?_
      rintro e w3 ⟨A1, rfl, hA1, hbx⟩
      have HA1 := hide hA1
      have hbn : Below W.heap.size W w3 := Below.trans (Below.refl _ W).drew hbx
      have HB1 : Hid (Below W.heap.size W w3) := hide (hbn)
      clear hbn hbx hA1
      go_wp2_with fail
      refine hK.out _ _ ?_ (fun hHeld => ?_)
      · exact B2.out.below HB1.out
      clear hK K
      try simp only [Act.put, List.setIfInBounds_toArray, List.set_cons_zero, List.set_cons_succ]
      refine wpAnyH_ready (rs := [9, 15]) (by kernel_rfl) (by simp) ?_
      refine AllReadyH.cons rfl (fun K hK => ?_) ?_
      · go_simp
        refine name_world (fun w4 hwn => ?_)
        have hbn : Below w3.heap.size w3 w4 := by rw [hwn]; exact (by repeat (first | with_reducible exact Below.refl _ _ | with_reducible exact Below.refl _ _ | with_reducible refine Below.setCell ?_ (by simp <;> omega) _ | with_reducible refine below_drewN ?_ _ | with_reducible refine Below.drew ?_ | with_reducible refine Below.alloc ?_ (by simp <;> omega) _ | with_reducible refine Below.setCell ?_ (by simp <;> omega) _ | with_reducible refine Below.alloc ?_ (by simp <;> omega) _ | with_reducible refine Below.setCell ?_ (by omega) _ | with_reducible refine Below.alloc ?_ (by omega) _ | omega | (simp; done)))
        clear hwn
        obtain ⟨q9, hq9⟩ : ∃ q, q = w3.heap.size := ⟨_, rfl⟩
        rw [← hq9]
        clear hq9
        have HB2 : Hid (Below W.heap.size W w4) := hide (HB1.out.trans (hbn.mono HB1.out.size))
        clear hbn
        refine hK.out _ _ ?_ (fun hHeld => ?_)
        · exact B2.out.below HB2.out
        clear hK K
        try simp only [Act.put, List.setIfInBounds_toArray, List.set_cons_zero, List.set_cons_succ]
        refine take_as 14 (some 24) (v := ?_) rfl rfl (by kernel_rfl) (by kernel_rfl) (by kernel_rfl) (fun _ _ _ h => h) (Or.inl ⟨by rfl, ?_⟩) (by assumption) ?_
        rotate_left 1
        · intro w2 hSw
          go_simp
          try with_reducible rfl
        try simp only [Act.put, List.setIfInBounds_toArray, List.set_cons_zero, List.set_cons_succ]
        refine wpAnyH_ready (rs := [15]) (by kernel_rfl) (by simp) ?_
        refine AllReadyH.cons rfl (fun K hK => ?_) ?_
        · go_simp
          refine name_world (fun w5 hwn => ?_)
          have hbn : Below w4.heap.size w4 w5 := by rw [hwn]; exact (by repeat (first | with_reducible exact Below.refl _ _ | with_reducible exact Below.refl _ _ | with_reducible refine Below.setCell ?_ (by simp <;> omega) _ | with_reducible refine below_drewN ?_ _ | with_reducible refine Below.drew ?_ | with_reducible refine Below.alloc ?_ (by simp <;> omega) _ | with_reducible refine Below.setCell ?_ (by simp <;> omega) _ | with_reducible refine Below.alloc ?_ (by simp <;> omega) _ | with_reducible refine Below.setCell ?_ (by omega) _ | with_reducible refine Below.alloc ?_ (by omega) _ | omega | (simp; done)))
          have hzn : BoxAt w5 w4.heap.size zeroL := by rw [hwn]; first | exact (BoxAt.new w4 zeroL _).drew | exact BoxAt.new w4 zeroL _
          clear hwn
          obtain ⟨g5, hg5⟩ : ∃ q, q = w4.heap.size := ⟨_, rfl⟩
          have hg5W : W.heap.size ≤ g5 := by rw [hg5]; exact HB2.out.size
          rw [← hg5] at hzn ⊢
          have HZ3 := hide hzn
          clear hzn hg5
          have HB3 : Hid (Below W.heap.size W w5) := hide (HB2.out.trans (hbn.mono HB2.out.size))
          clear hbn
          refine hK.out _ _ ?_ (fun hHeld => ?_)
          · exact B2.out.below HB3.out
          clear hK K
          try simp only [Act.put, List.setIfInBounds_toArray, List.set_cons_zero, List.set_cons_succ]
          refine wpAnyH_ready (rs := [16]) (by kernel_rfl) (by simp) ?_
          refine AllReadyH.cons rfl (fun K hK => ?_) ?_
          · refine step_store_as rfl rfl 164 (.tmp 5) (.tmp 24) rfl g5 0 (fcL (.slice A1 0 0) (.slice (some ⟨q9, 0, none⟩) 0 0) 0 0 1).toArray rfl rfl (HZ3.out.there 0 _ (by show 0 + 8 ≤ 8; decide)) (by kernel_rfl) (all_oneCell_toArray (by simp [fcL, Value.oneCell'])) ?_
            refine after_put 0 (fcL (.slice A1 0 0) (.slice (some ⟨q9, 0, none⟩) 0 0) 0 0 1) _ HZ3.out (by show 0 + 8 ≤ 8; decide) rfl (fun V5 hV5 hT5 => ?_)
            have HB5 : Hid (Below W.heap.size W V5) := hide (HB3.out.trans (hT5.below HB3.out.size (fun k hk => by omega)))
            refine hK.out _ _ ?_ (fun hHeld => ?_)
            · exact B2.out.below HB5.out
            clear hK K
            try simp only [Act.put, List.setIfInBounds_toArray, List.set_cons_zero, List.set_cons_succ]
            refine wpAnyH_done (by kernel_rfl) ?_ _
            go_wp2_with fail
            go_meet
            exact ⟨g5, A1, 0, some ⟨q9, 0, none⟩, 0, rfl, HA1.out, hV5, hg5W, HB5.out⟩
          exact AllReadyH.nil
        exact AllReadyH.nil
      refine AllReadyH.cons rfl (fun K hK => ?_) ?_
      · go_simp
        refine name_world (fun w4 hwn => ?_)
        have hbn : Below w3.heap.size w3 w4 := by rw [hwn]; exact (by repeat (first | with_reducible exact Below.refl _ _ | with_reducible exact Below.refl _ _ | with_reducible refine Below.setCell ?_ (by simp <;> omega) _ | with_reducible refine below_drewN ?_ _ | with_reducible refine Below.drew ?_ | with_reducible refine Below.alloc ?_ (by simp <;> omega) _ | with_reducible refine Below.setCell ?_ (by simp <;> omega) _ | with_reducible refine Below.alloc ?_ (by simp <;> omega) _ | with_reducible refine Below.setCell ?_ (by omega) _ | with_reducible refine Below.alloc ?_ (by omega) _ | omega | (simp; done)))
        have hzn : BoxAt w4 w3.heap.size zeroL := by rw [hwn]; first | exact (BoxAt.new w3 zeroL _).drew | exact BoxAt.new w3 zeroL _
        clear hwn
        obtain ⟨g5, hg5⟩ : ∃ q, q = w3.heap.size := ⟨_, rfl⟩
        have hg5W : W.heap.size ≤ g5 := by rw [hg5]; exact HB1.out.size
        rw [← hg5] at hzn ⊢
        have HZ2 := hide hzn
        clear hzn hg5
        have HB2 : Hid (Below W.heap.size W w4) := hide (HB1.out.trans (hbn.mono HB1.out.size))
        clear hbn
        refine hK.out _ _ ?_ (fun hHeld => ?_)
        · exact B2.out.below HB2.out
        clear hK K
        try simp only [Act.put, List.setIfInBounds_toArray, List.set_cons_zero, List.set_cons_succ]
        refine wpAnyH_ready (rs := [9]) (by kernel_rfl) (by simp) ?_
        refine AllReadyH.cons rfl (fun K hK => ?_) ?_
        · go_simp
          refine name_world (fun w5 hwn => ?_)
          have hbn : Below w4.heap.size w4 w5 := by rw [hwn]; exact (by repeat (first | with_reducible exact Below.refl _ _ | with_reducible exact Below.refl _ _ | with_reducible refine Below.setCell ?_ (by simp <;> omega) _ | with_reducible refine below_drewN ?_ _ | with_reducible refine Below.drew ?_ | with_reducible refine Below.alloc ?_ (by simp <;> omega) _ | with_reducible refine Below.setCell ?_ (by simp <;> omega) _ | with_reducible refine Below.alloc ?_ (by simp <;> omega) _ | with_reducible refine Below.setCell ?_ (by omega) _ | with_reducible refine Below.alloc ?_ (by omega) _ | omega | (simp; done)))
          clear hwn
          obtain ⟨q9, hq9⟩ : ∃ q, q = w4.heap.size := ⟨_, rfl⟩
          rw [← hq9]
          clear hq9
          have HB3 : Hid (Below W.heap.size W w5) := hide (HB2.out.trans (hbn.mono HB2.out.size))
          have HZ3 := hide (HZ2.out.below hbn)
          clear hbn
          refine hK.out _ _ ?_ (fun hHeld => ?_)
          · exact B2.out.below HB3.out
          clear hK K
          try simp only [Act.put, List.setIfInBounds_toArray, List.set_cons_zero, List.set_cons_succ]
          refine take_as 14 (some 24) (v := ?_) rfl rfl (by kernel_rfl) (by kernel_rfl) (by kernel_rfl) (fun _ _ _ h => h) (Or.inl ⟨by rfl, ?_⟩) (by assumption) ?_
          rotate_left 1
          · intro w2 hSw
            go_simp
            try with_reducible rfl
          try simp only [Act.put, List.setIfInBounds_toArray, List.set_cons_zero, List.set_cons_succ]
          refine wpAnyH_ready (rs := [16]) (by kernel_rfl) (by simp) ?_
          refine AllReadyH.cons rfl (fun K hK => ?_) ?_
          · refine step_store_as rfl rfl 164 (.tmp 5) (.tmp 24) rfl g5 0 (fcL (.slice A1 0 0) (.slice (some ⟨q9, 0, none⟩) 0 0) 0 0 1).toArray rfl rfl (HZ3.out.there 0 _ (by show 0 + 8 ≤ 8; decide)) (by kernel_rfl) (all_oneCell_toArray (by simp [fcL, Value.oneCell'])) ?_
            refine after_put 0 (fcL (.slice A1 0 0) (.slice (some ⟨q9, 0, none⟩) 0 0) 0 0 1) _ HZ3.out (by show 0 + 8 ≤ 8; decide) rfl (fun V5 hV5 hT5 => ?_)
            have HB5 : Hid (Below W.heap.size W V5) := hide (HB3.out.trans (hT5.below HB3.out.size (fun k hk => by omega)))
            refine hK.out _ _ ?_ (fun hHeld => ?_)
            · exact B2.out.below HB5.out
            clear hK K
            try simp only [Act.put, List.setIfInBounds_toArray, List.set_cons_zero, List.set_cons_succ]
            refine wpAnyH_done (by kernel_rfl) ?_ _
            go_wp2_with fail
            go_meet
            exact ⟨g5, A1, 0, some ⟨q9, 0, none⟩, 0, rfl, HA1.out, hV5, hg5W, HB5.out⟩
          exact AllReadyH.nil
        exact AllReadyH.nil
      exact AllReadyH.nil
    refine AllReadyH.cons rfl (fun K hK => ?_) ?_
    · go_simp
      refine name_world (fun w3 hwn => ?_)
      have hbn : Below W.heap.size W w3 := by rw [hwn]; exact (by repeat (first | with_reducible exact Below.refl _ _ | with_reducible exact Below.refl _ _ | with_reducible refine Below.setCell ?_ (by simp <;> omega) _ | with_reducible refine below_drewN ?_ _ | with_reducible refine Below.drew ?_ | with_reducible refine Below.alloc ?_ (by simp <;> omega) _ | with_reducible refine Below.setCell ?_ (by simp <;> omega) _ | with_reducible refine Below.alloc ?_ (by simp <;> omega) _ | with_reducible refine Below.setCell ?_ (by omega) _ | with_reducible refine Below.alloc ?_ (by omega) _ | omega | (simp; done)))
      clear hwn
      obtain ⟨q9, hq9⟩ : ∃ q, q = W.heap.size := ⟨_, rfl⟩
      rw [← hq9]
      clear hq9
      have HB1 : Hid (Below W.heap.size W w3) := hide (hbn)
      clear hbn
      refine hK.out _ _ ?_ (fun hHeld => ?_)
      · exact B2.out.below HB1.out
      clear hK K
      try simp only [Act.put, List.setIfInBounds_toArray, List.set_cons_zero, List.set_cons_succ]
      refine wpAnyH_ready (rs := [5, 15]) (by kernel_rfl) (by simp) ?_
      refine AllReadyH.cons rfl (fun K hK => ?_) ?_
      · go_simp
        refine (gap_new_emp _).mono ?_
        rintro e w4 ⟨A1, rfl, hA1, hbx⟩
        have HA1 := hide hA1
        have hbn : Below w3.heap.size w3 w4 := hbx
        have HB2 : Hid (Below W.heap.size W w4) := hide (HB1.out.trans (hbn.mono HB1.out.size))
        clear hbn hbx hA1
        go_wp2_with fail
        refine hK.out _ _ ?_ (fun hHeld => ?_)
        · exact B2.out.below HB2.out
        clear hK K
        try simp only [Act.put, List.setIfInBounds_toArray, List.set_cons_zero, List.set_cons_succ]
        refine take_as 14 (some 24) (v := ?_) rfl rfl (by kernel_rfl) (by kernel_rfl) (by kernel_rfl) (fun _ _ _ h => h) (Or.inl ⟨by rfl, ?_⟩) (by assumption) ?_
        rotate_left 1
        · intro w2 hSw
          go_simp
          try with_reducible rfl
        try simp only [Act.put, List.setIfInBounds_toArray, List.set_cons_zero, List.set_cons_succ]
        refine wpAnyH_ready (rs := [15]) (by kernel_rfl) (by simp) ?_
        refine AllReadyH.cons rfl (fun K hK => ?_) ?_
        · go_simp
          refine name_world (fun w5 hwn => ?_)
          have hbn : Below w4.heap.size w4 w5 := by rw [hwn]; exact (by repeat (first | with_reducible exact Below.refl _ _ | with_reducible exact Below.refl _ _ | with_reducible refine Below.setCell ?_ (by simp <;> omega) _ | with_reducible refine below_drewN ?_ _ | with_reducible refine Below.drew ?_ | with_reducible refine Below.alloc ?_ (by simp <;> omega) _ | with_reducible refine Below.setCell ?_ (by simp <;> omega) _ | with_reducible refine Below.alloc ?_ (by simp <;> omega) _ | with_reducible refine Below.setCell ?_ (by omega) _ | with_reducible refine Below.alloc ?_ (by omega) _ | omega | (simp; done)))
          have hzn : BoxAt w5 w4.heap.size zeroL := by rw [hwn]; first | exact (BoxAt.new w4 zeroL _).drew | exact BoxAt.new w4 zeroL _
          clear hwn
          obtain ⟨g5, hg5⟩ : ∃ q, q = w4.heap.size := ⟨_, rfl⟩
          have hg5W : W.heap.size ≤ g5 := by rw [hg5]; exact HB2.out.size
          rw [← hg5] at hzn ⊢
          have HZ3 := hide hzn
          clear hzn hg5
          have HB3 : Hid (Below W.heap.size W w5) := hide (HB2.out.trans (hbn.mono HB2.out.size))
          clear hbn
          refine hK.out _ _ ?_ (fun hHeld => ?_)
          · exact B2.out.below HB3.out
          clear hK K
          try simp only [Act.put, List.setIfInBounds_toArray, List.set_cons_zero, List.set_cons_succ]
          refine wpAnyH_ready (rs := [16]) (by kernel_rfl) (by simp) ?_
          refine AllReadyH.cons rfl (fun K hK => ?_) ?_
          · refine step_store_as rfl rfl 164 (.tmp 5) (.tmp 24) rfl g5 0 (fcL (.slice A1 0 0) (.slice (some ⟨q9, 0, none⟩) 0 0) 0 0 1).toArray rfl rfl (HZ3.out.there 0 _ (by show 0 + 8 ≤ 8; decide)) (by kernel_rfl) (all_oneCell_toArray (by simp [fcL, Value.oneCell'])) ?_
            refine after_put 0 (fcL (.slice A1 0 0) (.slice (some ⟨q9, 0, none⟩) 0 0) 0 0 1) _ HZ3.out (by show 0 + 8 ≤ 8; decide) rfl (fun V5 hV5 hT5 => ?_)
            have HB5 : Hid (Below W.heap.size W V5) := hide (HB3.out.trans (hT5.below HB3.out.size (fun k hk => by omega)))
            refine hK.out _ _ ?_ (fun hHeld => ?_)
            · exact B2.out.below HB5.out
            clear hK K
            try simp only [Act.put, List.setIfInBounds_toArray, List.set_cons_zero, List.set_cons_succ]
            refine wpAnyH_done (by kernel_rfl) ?_ _
            go_wp2_with fail
            go_meet
            exact ⟨g5, A1, 0, some ⟨q9, 0, none⟩, 0, rfl, HA1.out, hV5, hg5W, HB5.out⟩
          exact AllReadyH.nil
        exact AllReadyH.nil
      refine AllReadyH.cons rfl (fun K hK => ?_) ?_
      · go_simp
        refine name_world (fun w4 hwn => ?_)
        have hbn : Below w3.heap.size w3 w4 := by rw [hwn]; exact (by repeat (first | with_reducible exact Below.refl _ _ | with_reducible exact Below.refl _ _ | with_reducible refine Below.setCell ?_ (by simp <;> omega) _ | with_reducible refine below_drewN ?_ _ | with_reducible refine Below.drew ?_ | with_reducible refine Below.alloc ?_ (by simp <;> omega) _ | with_reducible refine Below.setCell ?_ (by simp <;> omega) _ | with_reducible refine Below.alloc ?_ (by simp <;> omega) _ | with_reducible refine Below.setCell ?_ (by omega) _ | with_reducible refine Below.alloc ?_ (by omega) _ | omega | (simp; done)))
        have hzn : BoxAt w4 w3.heap.size zeroL := by rw [hwn]; first | exact (BoxAt.new w3 zeroL _).drew | exact BoxAt.new w3 zeroL _
        clear hwn
        obtain ⟨g5, hg5⟩ : ∃ q, q = w3.heap.size := ⟨_, rfl⟩
        have hg5W : W.heap.size ≤ g5 := by rw [hg5]; exact HB1.out.size
        rw [← hg5] at hzn ⊢
        have HZ2 := hide hzn
        clear hzn hg5
        have HB2 : Hid (Below W.heap.size W w4) := hide (HB1.out.trans (hbn.mono HB1.out.size))
        clear hbn
        refine hK.out _ _ ?_ (fun hHeld => ?_)
        · exact B2.out.below HB2.out
        clear hK K
        try simp only [Act.put, List.setIfInBounds_toArray, List.set_cons_zero, List.set_cons_succ]
        refine wpAnyH_ready (rs := [5]) (by kernel_rfl) (by simp) ?_
        refine AllReadyH.cons rfl (fun K hK => ?_) ?_
        · go_simp
          refine (gap_new_emp _).mono ?_
          rintro e w5 ⟨A1, rfl, hA1, hbx⟩
          have HA1 := hide hA1
          have hbn : Below w4.heap.size w4 w5 := hbx
          have HB3 : Hid (Below W.heap.size W w5) := hide (HB2.out.trans (hbn.mono HB2.out.size))
          have HZ3 := hide (HZ2.out.below hbn)
          clear hbn hbx hA1
          go_wp2_with fail
          refine hK.out _ _ ?_ (fun hHeld => ?_)
          · exact B2.out.below HB3.out
          clear hK K
          try simp only [Act.put, List.setIfInBounds_toArray, List.set_cons_zero, List.set_cons_succ]
          refine take_as 14 (some 24) (v := ?_) rfl rfl (by kernel_rfl) (by kernel_rfl) (by kernel_rfl) (fun _ _ _ h => h) (Or.inl ⟨by rfl, ?_⟩) (by assumption) ?_
          rotate_left 1
          · intro w2 hSw
            go_simp
            try with_reducible rfl
          try simp only [Act.put, List.setIfInBounds_toArray, List.set_cons_zero, List.set_cons_succ]
          refine wpAnyH_ready (rs := [16]) (by kernel_rfl) (by simp) ?_
          refine AllReadyH.cons rfl (fun K hK => ?_) ?_
          · refine step_store_as rfl rfl 164 (.tmp 5) (.tmp 24) rfl g5 0 (fcL (.slice A1 0 0) (.slice (some ⟨q9, 0, none⟩) 0 0) 0 0 1).toArray rfl rfl (HZ3.out.there 0 _ (by show 0 + 8 ≤ 8; decide)) (by kernel_rfl) (all_oneCell_toArray (by simp [fcL, Value.oneCell'])) ?_
            refine after_put 0 (fcL (.slice A1 0 0) (.slice (some ⟨q9, 0, none⟩) 0 0) 0 0 1) _ HZ3.out (by show 0 + 8 ≤ 8; decide) rfl (fun V5 hV5 hT5 => ?_)
            have HB5 : Hid (Below W.heap.size W V5) := hide (HB3.out.trans (hT5.below HB3.out.size (fun k hk => by omega)))
            refine hK.out _ _ ?_ (fun hHeld => ?_)
            · exact B2.out.below HB5.out
            clear hK K
            try simp only [Act.put, List.setIfInBounds_toArray, List.set_cons_zero, List.set_cons_succ]
            refine wpAnyH_done (by kernel_rfl) ?_ _
            go_wp2_with fail
            go_meet
            exact ⟨g5, A1, 0, some ⟨q9, 0, none⟩, 0, rfl, HA1.out, hV5, hg5W, HB5.out⟩
          exact AllReadyH.nil
        exact AllReadyH.nil
      exact AllReadyH.nil
    refine AllReadyH.cons rfl (fun K hK => ?_) ?_
    · go_simp
      refine name_world (fun w3 hwn => ?_)
      have hbn : Below W.heap.size W w3 := by rw [hwn]; exact (by repeat (first | with_reducible exact Below.refl _ _ | with_reducible exact Below.refl _ _ | with_reducible refine Below.setCell ?_ (by simp <;> omega) _ | with_reducible refine below_drewN ?_ _ | with_reducible refine Below.drew ?_ | with_reducible refine Below.alloc ?_ (by simp <;> omega) _ | with_reducible refine Below.setCell ?_ (by simp <;> omega) _ | with_reducible refine Below.alloc ?_ (by simp <;> omega) _ | with_reducible refine Below.setCell ?_ (by omega) _ | with_reducible refine Below.alloc ?_ (by omega) _ | omega | (simp; done)))
      have hzn : BoxAt w3 W.heap.size zeroL := by rw [hwn]; first | exact (BoxAt.new W zeroL _).drew | exact BoxAt.new W zeroL _
      clear hwn
      obtain ⟨g5, hg5⟩ : ∃ q, q = W.heap.size := ⟨_, rfl⟩
      have hg5W : W.heap.size ≤ g5 := by rw [hg5]; exact Nat.le_refl _
      rw [← hg5] at hzn ⊢
      have HZ1 := hide hzn
      clear hzn hg5
      have HB1 : Hid (Below W.heap.size W w3) := hide (hbn)
      clear hbn
      refine hK.out _ _ ?_ (fun hHeld => ?_)
      · exact B2.out.below HB1.out
      clear hK K
      try simp only [Act.put, List.setIfInBounds_toArray, List.set_cons_zero, List.set_cons_succ]
      refine wpAnyH_ready (rs := [5, 9]) (by kernel_rfl) (by simp) ?_
      refine AllReadyH.cons rfl (fun K hK => ?_) ?_
      · go_simp
        refine (gap_new_emp _).mono ?_
        rintro e w4 ⟨A1, rfl, hA1, hbx⟩
        have HA1 := hide hA1
        have hbn : Below w3.heap.size w3 w4 := hbx
        have HB2 : Hid (Below W.heap.size W w4) := hide (HB1.out.trans (hbn.mono HB1.out.size))
        have HZ2 := hide (HZ1.out.below hbn)
        clear hbn hbx hA1
        go_wp2_with fail
        refine hK.out _ _ ?_ (fun hHeld => ?_)
        · exact B2.out.below HB2.out
        clear hK K
        try simp only [Act.put, List.setIfInBounds_toArray, List.set_cons_zero, List.set_cons_succ]
        refine wpAnyH_ready (rs := [9]) (by kernel_rfl) (by simp) ?_
        refine AllReadyH.cons rfl (fun K hK => ?_) ?_
        · go_simp
          refine name_world (fun w5 hwn => ?_)
          have hbn : Below w4.heap.size w4 w5 := by rw [hwn]; exact (by repeat (first | with_reducible exact Below.refl _ _ | with_reducible exact Below.refl _ _ | with_reducible refine Below.setCell ?_ (by simp <;> omega) _ | with_reducible refine below_drewN ?_ _ | with_reducible refine Below.drew ?_ | with_reducible refine Below.alloc ?_ (by simp <;> omega) _ | with_reducible refine Below.setCell ?_ (by simp <;> omega) _ | with_reducible refine Below.alloc ?_ (by simp <;> omega) _ | with_reducible refine Below.setCell ?_ (by omega) _ | with_reducible refine Below.alloc ?_ (by omega) _ | omega | (simp; done)))
          clear hwn
          obtain ⟨q9, hq9⟩ : ∃ q, q = w4.heap.size := ⟨_, rfl⟩
          rw [← hq9]
          clear hq9
          have HB3 : Hid (Below W.heap.size W w5) := hide (HB2.out.trans (hbn.mono HB2.out.size))
          have HZ3 := hide (HZ2.out.below hbn)
          clear hbn
          refine hK.out _ _ ?_ (fun hHeld => ?_)
          · exact B2.out.below HB3.out
          clear hK K
          try simp only [Act.put, List.setIfInBounds_toArray, List.set_cons_zero, List.set_cons_succ]
          refine take_as 14 (some 24) (v := ?_) rfl rfl (by kernel_rfl) (by kernel_rfl) (by kernel_rfl) (fun _ _ _ h => h) (Or.inl ⟨by rfl, ?_⟩) (by assumption) ?_
          rotate_left 1
          · intro w2 hSw
            go_simp
            try with_reducible rfl
          try simp only [Act.put, List.setIfInBounds_toArray, List.set_cons_zero, List.set_cons_succ]
          refine wpAnyH_ready (rs := [16]) (by kernel_rfl) (by simp) ?_
          refine AllReadyH.cons rfl (fun K hK => ?_) ?_
          · refine step_store_as rfl rfl 164 (.tmp 5) (.tmp 24) rfl g5 0 (fcL (.slice A1 0 0) (.slice (some ⟨q9, 0, none⟩) 0 0) 0 0 1).toArray rfl rfl (HZ3.out.there 0 _ (by show 0 + 8 ≤ 8; decide)) (by kernel_rfl) (all_oneCell_toArray (by simp [fcL, Value.oneCell'])) ?_
            refine after_put 0 (fcL (.slice A1 0 0) (.slice (some ⟨q9, 0, none⟩) 0 0) 0 0 1) _ HZ3.out (by show 0 + 8 ≤ 8; decide) rfl (fun V5 hV5 hT5 => ?_)
            have HB5 : Hid (Below W.heap.size W V5) := hide (HB3.out.trans (hT5.below HB3.out.size (fun k hk => by omega)))
            refine hK.out _ _ ?_ (fun hHeld => ?_)
            · exact B2.out.below HB5.out
            clear hK K
            try simp only [Act.put, List.setIfInBounds_toArray, List.set_cons_zero, List.set_cons_succ]
            refine wpAnyH_done (by kernel_rfl) ?_ _
            go_wp2_with fail
            go_meet
            exact ⟨g5, A1, 0, some ⟨q9, 0, none⟩, 0, rfl, HA1.out, hV5, hg5W, HB5.out⟩
          exact AllReadyH.nil
        exact AllReadyH.nil
      refine AllReadyH.cons rfl (fun K hK => ?_) ?_
      · go_simp
        refine name_world (fun w4 hwn => ?_)
        have hbn : Below w3.heap.size w3 w4 := by rw [hwn]; exact (by repeat (first | with_reducible exact Below.refl _ _ | with_reducible exact Below.refl _ _ | with_reducible refine Below.setCell ?_ (by simp <;> omega) _ | with_reducible refine below_drewN ?_ _ | with_reducible refine Below.drew ?_ | with_reducible refine Below.alloc ?_ (by simp <;> omega) _ | with_reducible refine Below.setCell ?_ (by simp <;> omega) _ | with_reducible refine Below.alloc ?_ (by simp <;> omega) _ | with_reducible refine Below.setCell ?_ (by omega) _ | with_reducible refine Below.alloc ?_ (by omega) _ | omega | (simp; done)))
        clear hwn
        obtain ⟨q9, hq9⟩ : ∃ q, q = w3.heap.size := ⟨_, rfl⟩
        rw [← hq9]
        clear hq9
        have HB2 : Hid (Below W.heap.size W w4) := hide (HB1.out.trans (hbn.mono HB1.out.size))
        have HZ2 := hide (HZ1.out.below hbn)
        clear hbn
        refine hK.out _ _ ?_ (fun hHeld => ?_)
        · exact B2.out.below HB2.out
        clear hK K
        try simp only [Act.put, List.setIfInBounds_toArray, List.set_cons_zero, List.set_cons_succ]
        refine wpAnyH_ready (rs := [5]) (by kernel_rfl) (by simp) ?_
        refine AllReadyH.cons rfl (fun K hK => ?_) ?_
        · go_simp
          refine (gap_new_emp _).mono ?_
          rintro e w5 ⟨A1, rfl, hA1, hbx⟩
          have HA1 := hide hA1
          have hbn : Below w4.heap.size w4 w5 := hbx
          have HB3 : Hid (Below W.heap.size W w5) := hide (HB2.out.trans (hbn.mono HB2.out.size))
          have HZ3 := hide (HZ2.out.below hbn)
          clear hbn hbx hA1
          go_wp2_with fail
          refine hK.out _ _ ?_ (fun hHeld => ?_)
          · exact B2.out.below HB3.out
          clear hK K
          try simp only [Act.put, List.setIfInBounds_toArray, List.set_cons_zero, List.set_cons_succ]
          refine take_as 14 (some 24) (v := ?_) rfl rfl (by kernel_rfl) (by kernel_rfl) (by kernel_rfl) (fun _ _ _ h => h) (Or.inl ⟨by rfl, ?_⟩) (by assumption) ?_
          rotate_left 1
          · intro w2 hSw
            go_simp
            try with_reducible rfl
          try simp only [Act.put, List.setIfInBounds_toArray, List.set_cons_zero, List.set_cons_succ]
          refine wpAnyH_ready (rs := [16]) (by kernel_rfl) (by simp) ?_
          refine AllReadyH.cons rfl (fun K hK => ?_) ?_
          · refine step_store_as rfl rfl 164 (.tmp 5) (.tmp 24) rfl g5 0 (fcL (.slice A1 0 0) (.slice (some ⟨q9, 0, none⟩) 0 0) 0 0 1).toArray rfl rfl (HZ3.out.there 0 _ (by show 0 + 8 ≤ 8; decide)) (by kernel_rfl) (all_oneCell_toArray (by simp [fcL, Value.oneCell'])) ?_
            refine after_put 0 (fcL (.slice A1 0 0) (.slice (some ⟨q9, 0, none⟩) 0 0) 0 0 1) _ HZ3.out (by show 0 + 8 ≤ 8; decide) rfl (fun V5 hV5 hT5 => ?_)
            have HB5 : Hid (Below W.heap.size W V5) := hide (HB3.out.trans (hT5.below HB3.out.size (fun k hk => by omega)))
            refine hK.out _ _ ?_ (fun hHeld => ?_)
            · exact B2.out.below HB5.out
            clear hK K
            try simp only [Act.put, List.setIfInBounds_toArray, List.set_cons_zero, List.set_cons_succ]
            refine wpAnyH_done (by kernel_rfl) ?_ _
            go_wp2_with fail
            go_meet
            exact ⟨g5, A1, 0, some ⟨q9, 0, none⟩, 0, rfl, HA1.out, hV5, hg5W, HB5.out⟩
          exact AllReadyH.nil
        exact AllReadyH.nil
      exact AllReadyH.nil
    exact AllReadyH.nil
  case rest =>
    obtain ⟨g, A, c, Aa, ca, rfl, hA, h5, hg5, hb5⟩ := hcut
    obtain ⟨V, hV⟩ : ∃ V : World, V = wc := ⟨_, rfl⟩
    rw [← hV] at h5 hb5 ⊢
    have H5 := hide h5
    have HB2 := hide (B2.out.below hb5)
    have HB4 := hide (B4.out.below hb5)
    have HbV := hide (HbW.out.trans (hb5.mono (by have := Hz.out; omega)))
    have hA' := hide hA
    clear hV h5 hb5 B2 B4 hA
    obtain ⟨d0, d1, d2, d3, d4, d5, d6, d7, d8⟩ : V.cell? ⟨w.heap.size, 0, none⟩ = some (.int .i64 id) ∧ V.cell? ⟨w.heap.size, 1, none⟩ = some (.int .i64 ds) ∧ V.cell? ⟨w.heap.size, 2, none⟩ = some (.string nm) ∧ V.cell? ⟨w.heap.size, 3, none⟩ = some (.int .i64 0) ∧ V.cell? ⟨w.heap.size, 4, none⟩ = some (.int .i64 0) ∧ V.cell? ⟨w.heap.size, 5, none⟩ = some (.slice none 0 0) ∧ V.cell? ⟨w.heap.size, 6, none⟩ = some (.slice none 0 0) ∧ V.cell? ⟨w.heap.size, 7, none⟩ = some (.int .i64 0) ∧ V.cell? ⟨w.heap.size, 8, none⟩ = some (.int .i64 0) := ⟨HB2.out.1 0 _ rfl, HB2.out.1 1 _ rfl, HB2.out.1 2 _ rfl, HB2.out.1 3 _ rfl, HB2.out.1 4 _ rfl, HB2.out.1 5 _ rfl, HB2.out.1 6 _ rfl, HB2.out.1 7 _ rfl, HB2.out.1 8 _ rfl⟩
    have f1 : V.cell? ⟨g, 1, none⟩ = some (.slice none 0 0) := H5.out.1 1 _ rfl
    have f3 : V.cell? ⟨g, 3, none⟩ = some (.slice none 0 0) := H5.out.1 3 _ rfl
    go_wp2_with fail
    refine wp_loop_rounds 1 ?_
    rw [rounds_succ]
    go_wp2_with fail
    refine wp_loop_rounds 1 ?_
    rw [rounds_succ]
    go_wp2_with fail
    refine wp_loop_rounds 1 ?_
    rw [rounds_succ]
    go_wp2_with fail
    refine wp_loop_rounds 1 ?_
    rw [rounds_succ]
    go_wp2_with (first
      | ((with_reducible refine wpList_load_mid ?_ 83 (.tmp 2) ?_ w.heap.size 0 ?_ (dfL id ds (.string nm) (.slice Ab nb cb)) _ ?_ Tryz.underlying83 ?_ ?_ ?_); (focus rfl); (focus rfl); (focus rfl); (focus exact HB2.out.whole); (focus rfl); (focus kernel_rfl))
      | ((with_reducible refine wpList_load_mid ?_ 164 (.tmp 5) ?_ g 0 ?_ (fcL (.slice A 0 c) (.slice Aa 0 ca) 0 0 1) _ ?_ Tryz.underlying164 ?_ ?_ ?_); (focus rfl); (focus rfl); (focus rfl); (focus exact H5.out.whole); (focus rfl); (focus kernel_rfl))
      | (go_at_call 117; refine (drop_live lv Hl.out _ _ _ _ _ _ _ A Aa c ca hA'.out _).mono ?_; rintro e w7 ⟨A2, c2, rfl, hA2, hb7⟩; have HA2 := hide hA2; have Hb7 := hide hb7; have HB7 := hide (HB4.out.below hb7); clear hA2 hb7)
      | ((with_reducible refine wpList_store_in ?_ ?_ 164 (.tmp 4) (.tmp 84) ?_ (w.heap.size + 1) 0 zeroL (fcL (.slice A2 0 c2) (.slice Aa 0 ca) 0 0 1) (fcL (.slice A2 0 c2) (.slice Aa 0 ca) 0 0 1) ?_ ?_ ?_ ?_ ?_ ?_ ?_ ?_); (focus rfl); (focus rfl); (focus rfl); (focus rfl); (focus rfl); (focus exact HB7.out); (focus (show 0 + 8 ≤ 8; decide)); (focus rfl); (focus kernel_rfl); (focus (intro u hu; revert u; simp [fcL, Value.oneCell'])); intro V8 hV8 hT8; have HV8 := hide hV8; have HT8 := hide hT8; clear hV8 hT8))
    have hs7 := Hb7.out.size
    have b7 : Below w.heap.size w w7 := HbV.out.trans (Hb7.out.mono HbV.out.size)
    exact bodyPost_ret (res_box (cs := (fcL (.slice A2 0 c2) (.slice Aa 0 ca) 0 0 1)) rfl rfl HV8.out Tryz.underlying164 rfl (by kernel_rfl)) rfl ⟨A2, c2, Aa, ca, rfl, HA2.out, b7.trans (HT8.out.below b7.size (fun k hk => by omega))⟩
end Go.Proofs.YthhfakkfdohcpaaGreat
