/- The analysis notes the result 0. No condition. -/
import Derived.Test.YthhfakkfdohcpaaGreatM14
import Derived.Test.YthhfakkfdohcpaaGreatM02
import Derived.Test.YthhfakkfdohcpaaGreatM15
import Derived.Test.YthhfakkfdohcpaaGreatM10
namespace Go.Proofs.YthhfakkfdohcpaaGreat
open Go.RowKit Go.ChangeMaps Go.MapKept
/-- The cells of the set of 0 alone. -/
def abL : List Value := [.int .i64 0, .int .i64 0, .int .i64 1, .int .i64 0, .int .i64 0]
def abZ : List Value := [.int .i64 0, .int .i64 0, .int .i64 0, .int .i64 0, .int .i64 0]
theorem abL_one : ∀ u ∈ abL, u.oneCell' = true := by
  intro u hu
  simp only [abL, List.mem_cons, List.not_mem_nil, or_false] at hu
  rcases hu with rfl | rfl | rfl | rfl | rfl <;> rfl
theorem fcL_one {A1 A2 : Option Addr} {n1 n2 c1 c2 : Nat} {mu ma pa : Int} : ∀ u ∈ fcL (.slice A1 n1 c1) (.slice A2 n2 c2) mu ma pa, u.oneCell' = true := by
  intro u hu
  simp only [fcL, List.mem_cons, List.not_mem_nil, or_false] at hu
  rcases hu with rfl | rfl | rfl | rfl | rfl | rfl | rfl | rfl <;> rfl
section
variable {W W' : World} {x mf mp mr mx : Nat} {lk : Int} {rs es : Value} {b : Nat → Nat} {lv id ds : Int} {nm B su : Value} {lp lx : List (Value × Value)}
theorem An.setRs (h : An W x mf mp mr mx lk rs es b lv id ds nm B su lp lx) (rs' : Value) : An (W.setCell ⟨x, 4, none⟩ rs') x mf mp mr mx lk rs' es b lv id ds nm B su lp lx :=
  { h with box := (h.box.set 4 (by simp [anL, pgL, dfL]) _).as rfl, fnd := h.fnd.set h.e1, prs := h.prs.set h.e2, rls := h.rls.set h.e3, fct := h.fct.set h.e4 }
theorem An.setEs (h : An W x mf mp mr mx lk rs es b lv id ds nm B su lp lx) (es' : Value) : An (W.setCell ⟨x, 5, none⟩ es') x mf mp mr mx lk rs es' b lv id ds nm B su lp lx :=
  { h with box := (h.box.set 5 (by simp [anL, pgL, dfL]) _).as rfl, fnd := h.fnd.set h.e1, prs := h.prs.set h.e2, rls := h.rls.set h.e3, fct := h.fct.set h.e4 }
end
/-- What is noted. -/
def ResTo (w : World) (x mf mp mr mx : Nat) (lk : Int) (b : Nat → Nat) (lv id ds : Int) (nm B su : Value) (lp lx : List (Value × Value)) (fc : List Value) (e : Ending) (w' : World) : Prop :=
  ∃ g1 c1 g2 c2, e = .returned (.tuple #[]) ∧ An w' x mf mp mr mx lk (.slice (some ⟨g1, 0, none⟩) 1 c1) (.slice (some ⟨g2, 0, none⟩) 1 c2) b lv id ds nm B su lp lx ∧ BoxAt w' g1 abL ∧ BoxAt w' g2 fc ∧ w.heap.size ≤ g1 ∧ w.heap.size ≤ g2 ∧ But (fun k => k = x) w w'
set_option maxRecDepth 100000 in
set_option maxHeartbeats 8000000 in
theorem result_num (x mf mp mr mx : Nat) (lk : Int) (b : Nat → Nat) (lv id ds : Int) (nm : ByteArray) (B su : Value) (lp lx : List (Value × Value)) (A1 A2 : Option Addr) (n1 n2 c1 c2 : Nat) (mu ma pa : Int) (w : World)
    (h : An w x mf mp mr mx lk (.slice none 0 0) (.slice none 0 0) b lv id ds (.string nm) B su lp lx) :
    Calls Tryz.prog 97 #[.pointer (some ⟨x, 0, none⟩), .agg (fcL (.slice A1 n1 c1) (.slice A2 n2 c2) mu ma pa).toArray, numE] w fun e w' => ResTo w x mf mp mr mx lk b lv id ds (.string nm) B su lp lx (fcL (.slice A1 n1 c1) (.slice A2 n2 c2) mu ma pa) e w' := by
  have H := hide h; clear h
  go_enter Tryz.func97, Tryz.ntmps97
  simp only [fcL]
  go_upto_region 1 with (fail)
  obtain ⟨W, hW⟩ : ∃ V, V = (w.alloc (.cells (fcL (.slice A1 n1 c1) (.slice A2 n2 c2) mu ma pa).toArray 164)).alloc (.cells [.int .i64 1, .int .i64 0, .int .i64 0, .slice none 0 0].toArray 116) := ⟨_, rfl⟩
  have hb2 := boxes2 w _ _ _ _ W hW
  have hW' := hW
  simp only [fcL] at hW'
  rw [← hW']
  clear hW hW'
  obtain ⟨b4, b5, hz, hbW⟩ := hb2
  have H1 := hide (H.out.below hbW)
  have B4 := hide b4
  have B5 := hide b5
  have HbW := hide hbW
  have Hz := hide hz
  have Hlt := hide H.out.lt
  have q32 : W.cell? ⟨x, 32, none⟩ = some (.int .i64 0) := H1.out.box.1 32 _ rfl
  have k0 : W.cell? ⟨w.heap.size, 0, none⟩ = some (.bool false) := b4.1 0 _ rfl
  clear b4 b5 hbW hz
  go_upto_region 2 with (fail)
  clear q32 k0
  go_cut [6, 7] (fun t u wx => ∃ g6, t = .pointer (some ⟨g6, 0, none⟩) ∧ u = .slice none 0 0 ∧ BoxAt wx g6 abL ∧ W.heap.size ≤ g6 ∧ Below W.heap.size W wx)
  case first =>
    refine wp_region_held_drew (S := fun w' => BoxAt w' x (anL mf mp mr lk (.slice none 0 0) (.slice none 0 0) mx b lv id ds (.string nm) B su) ∧ BoxAt w' w.heap.size (fcL (.slice A1 n1 c1) (.slice A2 n2 c2) mu ma pa) ∧ BoxAt w' (w.heap.size + 1) [.int .i64 1, .int .i64 0, .int .i64 0, .slice none 0 0]) (by kernel_rfl) ?_ (fun hHeld => ?_)
    · exact ⟨H1.out.box.below (Below.refl _ _).drew, B4.out.below (Below.refl _ _).drew, B5.out.below (Below.refl _ _).drew⟩
    generalize hw0 : World.drew W = w0 at hHeld ⊢
    have HB0 : Hid (Below W.heap.size W w0) := hide (by rw [← hw0]; exact (Below.refl _ W).drew)
    clear hw0
    refine take_as 0 (some 18) (v := ?_) rfl rfl (by kernel_rfl) (by kernel_rfl) (by kernel_rfl) (fun _ _ _ h => h) (Or.inl ⟨by rfl, ?_⟩) (by assumption) ?_
    rotate_left 1
    · intro w2 hSw
      go_simp
      try with_reducible rfl
    try simp only [Act.put, List.setIfInBounds_toArray, List.set_cons_zero, List.set_cons_succ]
    refine take_as 1 (some 19) (v := ?_) rfl rfl (by kernel_rfl) (by kernel_rfl) (by kernel_rfl) (fun _ _ _ h => h) (Or.inl ⟨by rfl, ?_⟩) (by assumption) ?_
    rotate_left 1
    · intro w2 hSw
      go_simp
      try with_reducible rfl
    try simp only [Act.put, List.setIfInBounds_toArray, List.set_cons_zero, List.set_cons_succ]
    refine take_as 2 (some 20) (v := ?_) rfl rfl (by kernel_rfl) (by kernel_rfl) (by kernel_rfl) (fun _ _ _ h => h) (Or.inl ⟨by rfl, ?_⟩) (by assumption) ?_
    rotate_left 1
    · intro w2 hSw
      go_simp
      try with_reducible rfl
    try simp only [Act.put, List.setIfInBounds_toArray, List.set_cons_zero, List.set_cons_succ]
    refine take_as 3 (some 21) rfl rfl (by kernel_rfl) (by kernel_rfl) (by kernel_rfl) (fun _ _ _ h => h) (yieldsIf_load_mid (by rfl) 83 (.tmp 20) rfl x 19 rfl (dfL id ds (.string nm) B) _ (fun w2 hSw => hSw.1.sub 19 _ rfl) Tryz.underlying83 rfl (by kernel_rfl)) (by assumption) ?_
    try simp only [Act.put, List.setIfInBounds_toArray, List.set_cons_zero, List.set_cons_succ]
    refine take_as 4 (some 22) (v := ?_) rfl rfl (by kernel_rfl) (by kernel_rfl) (by kernel_rfl) (fun _ _ _ h => h) (Or.inl ⟨by rfl, ?_⟩) (by assumption) ?_
    rotate_left 1
    · intro w2 hSw
      go_simp
      try with_reducible rfl
    try simp only [Act.put, List.setIfInBounds_toArray, List.set_cons_zero, List.set_cons_succ]
    refine take_as 5 (some 23) (v := ?_) rfl rfl (by kernel_rfl) (by kernel_rfl) (by kernel_rfl) (fun _ _ _ h => h) (Or.inl ⟨by rfl, ?_⟩) (by assumption) ?_
    rotate_left 1
    · intro w2 hSw
      go_simp
      try with_reducible rfl
    try simp only [Act.put, List.setIfInBounds_toArray, List.set_cons_zero, List.set_cons_succ]
    refine take_as 6 (some 24) (v := ?_) rfl rfl (by kernel_rfl) (by kernel_rfl) (by kernel_rfl) (fun _ _ _ h => h) (Or.inl ⟨by rfl, ?_⟩) (by assumption) ?_
    rotate_left 1
    · intro w2 hSw
      go_simp
      try with_reducible rfl
    try simp only [Act.put, List.setIfInBounds_toArray, List.set_cons_zero, List.set_cons_succ]
    refine take_as 7 (some 25) (v := ?_) rfl rfl (by kernel_rfl) (by kernel_rfl) (by kernel_rfl) (fun _ _ _ h => h) (Or.inl ⟨by rfl, ?_⟩) (by assumption) ?_
    rotate_left 1
    · intro w2 hSw
      go_simp
      try with_reducible rfl
    try simp only [Act.put, List.setIfInBounds_toArray, List.set_cons_zero, List.set_cons_succ]
    refine take_as 8 (some 26) (v := ?_) rfl rfl (by kernel_rfl) (by kernel_rfl) (by kernel_rfl) (fun _ _ _ h => h) (Or.inl ⟨by rfl, ?_⟩) (by assumption) ?_
    rotate_left 1
    · intro w2 hSw
      have hl := hSw.1.1 18 _ rfl
      go_simp
      try with_reducible rfl
    try simp only [Act.put, List.setIfInBounds_toArray, List.set_cons_zero, List.set_cons_succ]
    refine take_as 9 (some 27) rfl rfl (by kernel_rfl) (by kernel_rfl) (by kernel_rfl) (fun _ _ _ h => h) (yieldsIf_load_mid (by rfl) 164 (.tmp 4) rfl w.heap.size 0 rfl (fcL (.slice A1 n1 c1) (.slice A2 n2 c2) mu ma pa) _ (fun w2 hSw => hSw.2.1.whole) Tryz.underlying164 rfl (by kernel_rfl)) (by assumption) ?_
    try simp only [Act.put, List.setIfInBounds_toArray, List.set_cons_zero, List.set_cons_succ]
    refine take_as 10 (some 28) rfl rfl (by kernel_rfl) (by kernel_rfl) (by kernel_rfl) (fun _ _ _ h => h) (yieldsIf_load_mid (by rfl) 116 (.tmp 5) rfl (w.heap.size + 1) 0 rfl [.int .i64 1, .int .i64 0, .int .i64 0, .slice none 0 0] _ (fun w2 hSw => hSw.2.2.whole) Tryz.underlying116 rfl (by kernel_rfl)) (by assumption) ?_
    try simp only [Act.put, List.setIfInBounds_toArray, List.set_cons_zero, List.set_cons_succ]
    refine wpAnyH_ready (rs := [11, 15]) (by kernel_rfl) (by simp) ?_
    refine AllReadyH.cons rfl (fun K hK => ?_) ?_
    · go_simp
      refine (eval_num _ _ _ _ _ _ _ _ _ _ _ _ _ _ _ _ _ _ _ _ _).mono ?_
      rintro e w1 ⟨rfl, hbx⟩
      have hbn : Below w0.heap.size w0 w1 := hbx
      have HB1 : Hid (Below W.heap.size W w1) := hide (HB0.out.trans (hbn.mono HB0.out.size))
      clear hbn hbx
      go_wp2_with fail
      refine hK.out _ _ ?_ (fun hHeld => ?_)
      · exact ⟨H1.out.box.below HB1.out, B4.out.below HB1.out, B5.out.below HB1.out⟩
      clear hK K
      try simp only [Act.put, List.setIfInBounds_toArray, List.set_cons_zero, List.set_cons_succ]
      refine take_as 12 (some 17) (v := ?_) rfl rfl (by kernel_rfl) (by kernel_rfl) (by kernel_rfl) (fun _ _ _ h => h) (Or.inl ⟨by rfl, ?_⟩) (by assumption) ?_
      rotate_left 1
      · intro w2 hSw
        go_simp
        try with_reducible rfl
      try simp only [Act.put, List.setIfInBounds_toArray, List.set_cons_zero, List.set_cons_succ]
      refine take_as 13 (some 30) (v := ?_) rfl rfl (by kernel_rfl) (by kernel_rfl) (by kernel_rfl) (fun _ _ _ h => h) (Or.inl ⟨by rfl, ?_⟩) (by assumption) ?_
      rotate_left 1
      · intro w2 hSw
        go_simp
        try with_reducible rfl
      try simp only [Act.put, List.setIfInBounds_toArray, List.set_cons_zero, List.set_cons_succ]
      refine take_as 14 (some 31) (v := ?_) rfl rfl (by kernel_rfl) (by kernel_rfl) (by kernel_rfl) (fun _ _ _ h => h) (Or.inl ⟨by rfl, ?_⟩) (by assumption) ?_
      rotate_left 1
      · intro w2 hSw
        go_simp
        try with_reducible rfl
      try simp only [Act.put, List.setIfInBounds_toArray, List.set_cons_zero, List.set_cons_succ]
      refine wpAnyH_ready (rs := [15]) (by kernel_rfl) (by simp) ?_
      refine AllReadyH.cons rfl (fun K hK => ?_) ?_
      · go_simp
        refine name_world (fun w2 hwn => ?_)
        have hbn : Below w1.heap.size w1 w2 := by rw [hwn]; exact (Below.refl _ _).alloc (Nat.le_refl _) _
        have hHZ : BoxAt w2 w1.heap.size abZ := by rw [hwn]; exact BoxAt.new _ _ _
        clear hwn
        have HB2 : Hid (Below W.heap.size W w2) := hide (HB1.out.trans (hbn.mono HB1.out.size))
        obtain ⟨g6, hqg6⟩ : ∃ q, q = w1.heap.size := ⟨_, rfl⟩
        have Hg6W : W.heap.size ≤ g6 := by rw [hqg6]; exact HB1.out.size
        rw [← hqg6] at hHZ ⊢
        have HZ := hide hHZ
        clear hqg6 hHZ hbn
        refine hK.out _ _ ?_ (fun hHeld => ?_)
        · exact ⟨H1.out.box.below HB2.out, B4.out.below HB2.out, B5.out.below HB2.out⟩
        clear hK K
        try simp only [Act.put, List.setIfInBounds_toArray, List.set_cons_zero, List.set_cons_succ]
        refine wpAnyH_ready (rs := [16]) (by kernel_rfl) (by simp) ?_
        refine AllReadyH.cons rfl (fun K hK => ?_) ?_
        · refine step_store_as rfl rfl 57 (.tmp 6) (.tmp 30) rfl g6 0 abL.toArray rfl rfl (HZ.out.there 0 _ (by show 0 + 5 ≤ 5; decide)) (by kernel_rfl) (all_oneCell_toArray abL_one) ?_
          refine after_put 0 abL _ HZ.out (by show 0 + 5 ≤ 5; decide) rfl (fun w3 hV5 hT5 => ?_)
          have HB3 : Hid (Below W.heap.size W w3) := hide (HB2.out.trans (hT5.below HB2.out.size (fun k hk => by omega)))
          have HV5 := hide hV5
          clear hV5 hT5
          refine hK.out _ _ ?_ (fun hHeld => ?_)
          · exact ⟨H1.out.box.below HB3.out, B4.out.below HB3.out, B5.out.below HB3.out⟩
          clear hK K
          try simp only [Act.put, List.setIfInBounds_toArray, List.set_cons_zero, List.set_cons_succ]
          refine take_as 17 (some 7) (v := ?_) rfl rfl (by kernel_rfl) (by kernel_rfl) (by kernel_rfl) (fun _ _ _ h => h) (Or.inl ⟨by rfl, ?_⟩) (by assumption) ?_
          rotate_left 1
          · intro w2 hSw
            go_simp
            try with_reducible rfl
          try simp only [Act.put, List.setIfInBounds_toArray, List.set_cons_zero, List.set_cons_succ]
          refine wpAnyH_done (by kernel_rfl) ?_ _
          go_wp2_with fail
          go_meet
          exact ⟨g6, rfl, rfl, HV5.out, Hg6W, HB3.out⟩
        exact AllReadyH.nil
      exact AllReadyH.nil
    refine AllReadyH.cons rfl (fun K hK => ?_) ?_
    · go_simp
      refine name_world (fun w1 hwn => ?_)
      have hbn : Below w0.heap.size w0 w1 := by rw [hwn]; exact (Below.refl _ _).alloc (Nat.le_refl _) _
      have hHZ : BoxAt w1 w0.heap.size abZ := by rw [hwn]; exact BoxAt.new _ _ _
      clear hwn
      have HB1 : Hid (Below W.heap.size W w1) := hide (HB0.out.trans (hbn.mono HB0.out.size))
      obtain ⟨g6, hqg6⟩ : ∃ q, q = w0.heap.size := ⟨_, rfl⟩
      have Hg6W : W.heap.size ≤ g6 := by rw [hqg6]; exact HB0.out.size
      rw [← hqg6] at hHZ ⊢
      have HZ := hide hHZ
      clear hqg6 hHZ hbn
      refine hK.out _ _ ?_ (fun hHeld => ?_)
      · exact ⟨H1.out.box.below HB1.out, B4.out.below HB1.out, B5.out.below HB1.out⟩
      clear hK K
      try simp only [Act.put, List.setIfInBounds_toArray, List.set_cons_zero, List.set_cons_succ]
      refine wpAnyH_ready (rs := [11]) (by kernel_rfl) (by simp) ?_
      refine AllReadyH.cons rfl (fun K hK => ?_) ?_
      · go_simp
        refine (eval_num _ _ _ _ _ _ _ _ _ _ _ _ _ _ _ _ _ _ _ _ _).mono ?_
        rintro e w2 ⟨rfl, hbx⟩
        have hbn : Below w1.heap.size w1 w2 := hbx
        have HB2 : Hid (Below W.heap.size W w2) := hide (HB1.out.trans (hbn.mono HB1.out.size))
        replace HZ := hide (HZ.out.below hbn)
        clear hbn hbx
        go_wp2_with fail
        refine hK.out _ _ ?_ (fun hHeld => ?_)
        · exact ⟨H1.out.box.below HB2.out, B4.out.below HB2.out, B5.out.below HB2.out⟩
        clear hK K
        try simp only [Act.put, List.setIfInBounds_toArray, List.set_cons_zero, List.set_cons_succ]
        refine take_as 12 (some 17) (v := ?_) rfl rfl (by kernel_rfl) (by kernel_rfl) (by kernel_rfl) (fun _ _ _ h => h) (Or.inl ⟨by rfl, ?_⟩) (by assumption) ?_
        rotate_left 1
        · intro w2 hSw
          go_simp
          try with_reducible rfl
        try simp only [Act.put, List.setIfInBounds_toArray, List.set_cons_zero, List.set_cons_succ]
        refine take_as 13 (some 30) (v := ?_) rfl rfl (by kernel_rfl) (by kernel_rfl) (by kernel_rfl) (fun _ _ _ h => h) (Or.inl ⟨by rfl, ?_⟩) (by assumption) ?_
        rotate_left 1
        · intro w2 hSw
          go_simp
          try with_reducible rfl
        try simp only [Act.put, List.setIfInBounds_toArray, List.set_cons_zero, List.set_cons_succ]
        refine take_as 14 (some 31) (v := ?_) rfl rfl (by kernel_rfl) (by kernel_rfl) (by kernel_rfl) (fun _ _ _ h => h) (Or.inl ⟨by rfl, ?_⟩) (by assumption) ?_
        rotate_left 1
        · intro w2 hSw
          go_simp
          try with_reducible rfl
        try simp only [Act.put, List.setIfInBounds_toArray, List.set_cons_zero, List.set_cons_succ]
        refine wpAnyH_ready (rs := [16]) (by kernel_rfl) (by simp) ?_
        refine AllReadyH.cons rfl (fun K hK => ?_) ?_
        · refine step_store_as rfl rfl 57 (.tmp 6) (.tmp 30) rfl g6 0 abL.toArray rfl rfl (HZ.out.there 0 _ (by show 0 + 5 ≤ 5; decide)) (by kernel_rfl) (all_oneCell_toArray abL_one) ?_
          refine after_put 0 abL _ HZ.out (by show 0 + 5 ≤ 5; decide) rfl (fun w3 hV5 hT5 => ?_)
          have HB3 : Hid (Below W.heap.size W w3) := hide (HB2.out.trans (hT5.below HB2.out.size (fun k hk => by omega)))
          have HV5 := hide hV5
          clear hV5 hT5
          refine hK.out _ _ ?_ (fun hHeld => ?_)
          · exact ⟨H1.out.box.below HB3.out, B4.out.below HB3.out, B5.out.below HB3.out⟩
          clear hK K
          try simp only [Act.put, List.setIfInBounds_toArray, List.set_cons_zero, List.set_cons_succ]
          refine take_as 17 (some 7) (v := ?_) rfl rfl (by kernel_rfl) (by kernel_rfl) (by kernel_rfl) (fun _ _ _ h => h) (Or.inl ⟨by rfl, ?_⟩) (by assumption) ?_
          rotate_left 1
          · intro w2 hSw
            go_simp
            try with_reducible rfl
          try simp only [Act.put, List.setIfInBounds_toArray, List.set_cons_zero, List.set_cons_succ]
          refine wpAnyH_done (by kernel_rfl) ?_ _
          go_wp2_with fail
          go_meet
          exact ⟨g6, rfl, rfl, HV5.out, Hg6W, HB3.out⟩
        exact AllReadyH.nil
      exact AllReadyH.nil
    exact AllReadyH.nil
  case rest =>
    obtain ⟨g6, rfl, rfl, h6, hg6, hb6⟩ := hcut
    obtain ⟨V, hV⟩ : ∃ V : World, V = wc := ⟨_, rfl⟩
    rw [← hV] at h6 hb6 ⊢
    have H6 := hide h6
    have H2 := hide (H1.out.below hb6)
    have B4' := hide (B4.out.below hb6)
    have Hb6 := hide hb6
    have Hg6 := hide hg6
    clear hV h6 hb6 hg6 B4 B5 H1
    go_upto_region 4 with (go_at_call 130; refine (used_nil _ _).mono ?_; rintro e X ⟨rfl, hb1⟩; have Hb1 := hide hb1; clear hb1)
    have H3 := hide (H2.out.below Hb1.out)
    have H7 := hide (H6.out.below Hb1.out)
    have B5 := hide (B4'.out.below Hb1.out)
    have Hlt1 := hide H3.out.lt
    have HbX : Hid (Below w.heap.size w X) := hide ((HbW.out.trans (Hb6.out.mono HbW.out.size)).trans (Hb1.out.mono (by have := HbW.out.size; have := Hb6.out.size; omega)))
    have Hx1 : Hid (w.heap.size + 2 ≤ X.heap.size) := hide (by have := Hz.out; have := Hb6.out.size; have := Hb1.out.size; omega)
    clear H2 H6 B4' Hb6 Hb1 H Hlt
    refine wp_region_heldZ (S := fun w' => BoxAt w' x (anL mf mp mr lk (.slice none 0 0) (.slice none 0 0) mx b lv id ds (.string nm) B su) ∧ BoxAt w' g6 abL ∧ BoxAt w' w.heap.size (fcL (.slice A1 n1 c1) (.slice A2 n2 c2) mu ma pa)) [21] (by kernel_rfl) ?_ (fun hHeld => ?_)
    · exact ⟨H3.out.box.below (Below.refl _ _).drew, H7.out.below (Below.refl _ _).drew, B5.out.below (Below.refl _ _).drew⟩
    generalize hw0 : World.drew X = w0 at hHeld ⊢
    have HB0 : Hid (Below X.heap.size X w0) := hide (by rw [← hw0]; exact (Below.refl _ X).drew)
    replace H3 := hide (H3.out.below HB0.out)
    replace H7 := hide (H7.out.below HB0.out)
    replace B5 := hide (B5.out.below HB0.out)
    have Hx : x < X.heap.size := Hlt1.out.1
    clear hw0
    refine takeZp 0 (some 35) (v := ?_) rfl rfl (by kernel_rfl) (by kernel_rfl) (by kernel_rfl) (fun _ _ _ h => h) (Or.inl ⟨by rfl, ?_⟩) (by assumption) (by kernel_rfl) ?_
    rotate_left 1
    · intro w2 hSw
      go_simp
      try with_reducible rfl
    try simp only [Act.put, List.setIfInBounds_toArray, List.set_cons_zero, List.set_cons_succ]
    refine takeZp 1 (some 36) (v := ?_) rfl rfl (by kernel_rfl) (by kernel_rfl) (by kernel_rfl) (fun _ _ _ h => h) (Or.inl ⟨by rfl, ?_⟩) (by assumption) (by kernel_rfl) ?_
    rotate_left 1
    · intro w2 hSw
      go_simp
      try with_reducible rfl
    try simp only [Act.put, List.setIfInBounds_toArray, List.set_cons_zero, List.set_cons_succ]
    refine takeZp 2 (some 37) (v := ?_) rfl rfl (by kernel_rfl) (by kernel_rfl) (by kernel_rfl) (fun _ _ _ h => h) (Or.inl ⟨by rfl, ?_⟩) (by assumption) (by kernel_rfl) ?_
    rotate_left 1
    · intro w2 hSw
      go_simp
      try with_reducible rfl
    try simp only [Act.put, List.setIfInBounds_toArray, List.set_cons_zero, List.set_cons_succ]
    refine takeZp 3 (some 38) (v := ?_) rfl rfl (by kernel_rfl) (by kernel_rfl) (by kernel_rfl) (fun _ _ _ h => h) (Or.inl ⟨by rfl, ?_⟩) (by assumption) (by kernel_rfl) ?_
    rotate_left 1
    · intro w2 hSw
      go_simp
      try with_reducible rfl
    try simp only [Act.put, List.setIfInBounds_toArray, List.set_cons_zero, List.set_cons_succ]
    refine takeZp 4 (some 39) (v := ?_) rfl rfl (by kernel_rfl) (by kernel_rfl) (by kernel_rfl) (fun _ _ _ h => h) (Or.inl ⟨by rfl, ?_⟩) (by assumption) (by kernel_rfl) ?_
    rotate_left 1
    · intro w2 hSw
      go_simp
      try with_reducible rfl
    try simp only [Act.put, List.setIfInBounds_toArray, List.set_cons_zero, List.set_cons_succ]
    refine takeZp 5 (some 40) (v := ?_) rfl rfl (by kernel_rfl) (by kernel_rfl) (by kernel_rfl) (fun _ _ _ h => h) (Or.inl ⟨by rfl, ?_⟩) (by assumption) (by kernel_rfl) ?_
    rotate_left 1
    · intro w2 hSw
      go_simp
      try with_reducible rfl
    try simp only [Act.put, List.setIfInBounds_toArray, List.set_cons_zero, List.set_cons_succ]
    refine takeZ 6 (some 41) (v := ?_) rfl rfl (by kernel_rfl) (by kernel_rfl) (by kernel_rfl) (fun _ _ _ h => h) (Or.inl ⟨by rfl, ?_⟩) (by assumption) (by kernel_rfl) ?_
    rotate_left 1
    · intro w2 hSw
      have hl := hSw.1.1 4 _ rfl
      go_simp
      try with_reducible rfl
    try simp only [Act.put, List.setIfInBounds_toArray, List.set_cons_zero, List.set_cons_succ]
    refine takeZ 7 (some 42) rfl rfl (by kernel_rfl) (by kernel_rfl) (by kernel_rfl) (fun _ _ _ h => h) (yieldsIf_load_mid (by rfl) 57 (.tmp 6) rfl g6 0 rfl abL _ (fun w2 hSw => hSw.2.1.whole) Tryz.underlying57 rfl (by kernel_rfl)) (by assumption) (by kernel_rfl) ?_
    try simp only [Act.put, List.setIfInBounds_toArray, List.set_cons_zero, List.set_cons_succ]
    refine takeZp 10 (some 45) (v := ?_) rfl rfl (by kernel_rfl) (by kernel_rfl) (by kernel_rfl) (fun _ _ _ h => h) (Or.inl ⟨by rfl, ?_⟩) (by assumption) (by kernel_rfl) ?_
    rotate_left 1
    · intro w2 hSw
      go_simp
      try with_reducible rfl
    try simp only [Act.put, List.setIfInBounds_toArray, List.set_cons_zero, List.set_cons_succ]
    refine takeZp 11 (some 46) (v := ?_) rfl rfl (by kernel_rfl) (by kernel_rfl) (by kernel_rfl) (fun _ _ _ h => h) (Or.inl ⟨by rfl, ?_⟩) (by assumption) (by kernel_rfl) ?_
    rotate_left 1
    · intro w2 hSw
      go_simp
      try with_reducible rfl
    try simp only [Act.put, List.setIfInBounds_toArray, List.set_cons_zero, List.set_cons_succ]
    refine takeZp 12 (some 47) (v := ?_) rfl rfl (by kernel_rfl) (by kernel_rfl) (by kernel_rfl) (fun _ _ _ h => h) (Or.inl ⟨by rfl, ?_⟩) (by assumption) (by kernel_rfl) ?_
    rotate_left 1
    · intro w2 hSw
      go_simp
      try with_reducible rfl
    try simp only [Act.put, List.setIfInBounds_toArray, List.set_cons_zero, List.set_cons_succ]
    refine takeZp 13 (some 48) (v := ?_) rfl rfl (by kernel_rfl) (by kernel_rfl) (by kernel_rfl) (fun _ _ _ h => h) (Or.inl ⟨by rfl, ?_⟩) (by assumption) (by kernel_rfl) ?_
    rotate_left 1
    · intro w2 hSw
      go_simp
      try with_reducible rfl
    try simp only [Act.put, List.setIfInBounds_toArray, List.set_cons_zero, List.set_cons_succ]
    refine takeZ 14 (some 49) (v := ?_) rfl rfl (by kernel_rfl) (by kernel_rfl) (by kernel_rfl) (fun _ _ _ h => h) (Or.inl ⟨by rfl, ?_⟩) (by assumption) (by kernel_rfl) ?_
    rotate_left 1
    · intro w2 hSw
      have hl := hSw.1.1 5 _ rfl
      go_simp
      try with_reducible rfl
    try simp only [Act.put, List.setIfInBounds_toArray, List.set_cons_zero, List.set_cons_succ]
    refine takeZ 15 (some 50) rfl rfl (by kernel_rfl) (by kernel_rfl) (by kernel_rfl) (fun _ _ _ h => h) (yieldsIf_load_mid (by rfl) 164 (.tmp 4) rfl w.heap.size 0 rfl (fcL (.slice A1 n1 c1) (.slice A2 n2 c2) mu ma pa) _ (fun w2 hSw => hSw.2.2.whole) Tryz.underlying164 rfl (by kernel_rfl)) (by assumption) (by kernel_rfl) ?_
    try simp only [Act.put, List.setIfInBounds_toArray, List.set_cons_zero, List.set_cons_succ]
    refine wpAnyZ_ready (rs := [8, 16]) (by kernel_rfl) (by simp) ?_
    refine AllReadyZ.cons rfl (by kernel_rfl) (fun K hK => ?_) ?_
    · refine step_buildSlice_one (some 43) rfl rfl 154 57 5 40 elemAbs (.tmp 42) rfl _ abL rfl rfl rfl (by omega) ?_
      intro g8 w1 hHS8 Hg8W hbn
      have HS8 := hide hHS8
      have HB1 : Hid (Below X.heap.size X w1) := hide (HB0.out.trans (hbn.mono HB0.out.size))
      replace H3 := hide (H3.out.below hbn)
      replace H7 := hide (H7.out.below hbn)
      replace B5 := hide (B5.out.below hbn)
      clear hHS8 hbn
      refine hK.out _ _ ?_ (fun hHeld => ?_)
      · exact ⟨H3.out.box, H7.out, B5.out⟩
      clear hK K
      try simp only [Act.put, List.setIfInBounds_toArray, List.set_cons_zero, List.set_cons_succ]
      refine wpAnyZ_ready (rs := [9, 16]) (by kernel_rfl) (by simp) ?_
      refine AllReadyZ.cons rfl (by kernel_rfl) (fun K hK => ?_) ?_
      · refine step_append_to (some 44) rfl rfl (.tmp 41) (.tmp 43) 154 57 5 40 elemAbs rfl X.heap.size (.slice none 0 0) 0 [] rfl (own_nil _ _ _ _) g8 1 1 abL rfl HS8.out rfl abL_one (by omega) (by omega) HB1.out.size ?_
        intro g9 c9 w2 hA
        obtain ⟨hbn, hgn⟩ := hA.first
        have HA9 := hide hA.box
        have Hg9W : X.heap.size ≤ g9 := hA.base
        have Hg9N : w1.heap.size ≤ g9 := hgn
        have HB2 : Hid (Below X.heap.size X w2) := hide (HB1.out.trans (hbn.mono HB1.out.size))
        replace H3 := hide (H3.out.below hbn)
        replace H7 := hide (H7.out.below hbn)
        replace B5 := hide (B5.out.below hbn)
        replace HS8 := hide (HS8.out.below hbn)
        clear hA hbn hgn
        refine hK.out _ _ ?_ (fun hHeld => ?_)
        · exact ⟨H3.out.box, H7.out, B5.out⟩
        clear hK K
        try simp only [Act.put, List.setIfInBounds_toArray, List.set_cons_zero, List.set_cons_succ]
        refine wpAnyZ_ready (rs := [16]) (by kernel_rfl) (by simp) ?_
        refine AllReadyZ.cons rfl (by kernel_rfl) (fun K hK => ?_) ?_
        · refine step_buildSlice_one (some 51) rfl rfl 55 164 8 128 elemFact (.tmp 50) rfl _ (fcL (.slice A1 n1 c1) (.slice A2 n2 c2) mu ma pa) rfl rfl rfl (by omega) ?_
          intro g16 w3 hHS16 Hg16W hbn
          have HS16 := hide hHS16
          have HB3 : Hid (Below X.heap.size X w3) := hide (HB2.out.trans (hbn.mono HB2.out.size))
          replace H3 := hide (H3.out.below hbn)
          replace H7 := hide (H7.out.below hbn)
          replace B5 := hide (B5.out.below hbn)
          replace HS8 := hide (HS8.out.below hbn)
          replace HA9 := hide (HA9.out.below hbn)
          clear hHS16 hbn
          refine hK.out _ _ ?_ (fun hHeld => ?_)
          · exact ⟨H3.out.box, H7.out, B5.out⟩
          clear hK K
          try simp only [Act.put, List.setIfInBounds_toArray, List.set_cons_zero, List.set_cons_succ]
          refine wpAnyZ_ready (rs := [17]) (by kernel_rfl) (by simp) ?_
          refine AllReadyZ.cons rfl (by kernel_rfl) (fun K hK => ?_) ?_
          · refine step_append_to (some 52) rfl rfl (.tmp 49) (.tmp 51) 55 164 8 128 elemFact rfl X.heap.size (.slice none 0 0) 0 [] rfl (own_nil _ _ _ _) g16 1 1 (fcL (.slice A1 n1 c1) (.slice A2 n2 c2) mu ma pa) rfl HS16.out rfl fcL_one (by omega) (by omega) HB3.out.size ?_
            intro g17 c17 w4 hA
            obtain ⟨hbn, hgn⟩ := hA.first
            have HA17 := hide hA.box
            have Hg17W : X.heap.size ≤ g17 := hA.base
            have Hg17N : w3.heap.size ≤ g17 := hgn
            have HB4 : Hid (Below X.heap.size X w4) := hide (HB3.out.trans (hbn.mono HB3.out.size))
            replace H3 := hide (H3.out.below hbn)
            replace H7 := hide (H7.out.below hbn)
            replace B5 := hide (B5.out.below hbn)
            replace HS8 := hide (HS8.out.below hbn)
            replace HA9 := hide (HA9.out.below hbn)
            replace HS16 := hide (HS16.out.below hbn)
            clear hA hbn hgn
            refine hK.out _ _ ?_ (fun hHeld => ?_)
            · exact ⟨H3.out.box, H7.out, B5.out⟩
            clear hK K
            try simp only [Act.put, List.setIfInBounds_toArray, List.set_cons_zero, List.set_cons_succ]
            refine takeZp 18 (some 53) (v := ?_) rfl rfl (by kernel_rfl) (by kernel_rfl) (by kernel_rfl) (fun _ _ _ h => h) (Or.inl ⟨by rfl, ?_⟩) (by assumption) (by kernel_rfl) ?_
            rotate_left 1
            · intro w2 hSw
              go_simp
              try with_reducible rfl
            try simp only [Act.put, List.setIfInBounds_toArray, List.set_cons_zero, List.set_cons_succ]
            refine takeZp 19 (some 54) (v := ?_) rfl rfl (by kernel_rfl) (by kernel_rfl) (by kernel_rfl) (fun _ _ _ h => h) (Or.inl ⟨by rfl, ?_⟩) (by assumption) (by kernel_rfl) ?_
            rotate_left 1
            · intro w2 hSw
              go_simp
              try with_reducible rfl
            try simp only [Act.put, List.setIfInBounds_toArray, List.set_cons_zero, List.set_cons_succ]
            refine takeZp 20 (some 55) (v := ?_) rfl rfl (by kernel_rfl) (by kernel_rfl) (by kernel_rfl) (fun _ _ _ h => h) (Or.inl ⟨by rfl, ?_⟩) (by assumption) (by kernel_rfl) ?_
            rotate_left 1
            · intro w2 hSw
              go_simp
              try with_reducible rfl
            try simp only [Act.put, List.setIfInBounds_toArray, List.set_cons_zero, List.set_cons_succ]
            refine wpAnyZ_ready (rs := [21]) (by kernel_rfl) (by simp) ?_
            refine AllReadyZ.last rfl (by kernel_rfl) (fun K hK => ?_) ?_
            · have hc := H3.out.box.1 4 _ rfl
              have hf := H3.out.box.2.1 4
              go_simp
              refine name_world (fun w5 hwn => ?_)
              have hbt : But (fun k => k = x) w4 w5 := by rw [hwn]; exact But.setCell (S := fun k => k = x) (But.refl _ _) (p := ⟨x, 4, none⟩) rfl _
              replace H3 := hide (H3.out.setRs (.slice (some ⟨g9, 0, none⟩) 1 c9))
              rw [← hwn] at H3
              clear hwn hc hf
              replace HA9 := hide (HA9.out.but hbt (by omega))
              replace HA17 := hide (HA17.out.but hbt (by omega))
              have HT : Hid (But (fun k => k = x) X w5) := hide ((Below.but HB4.out _).trans hbt)
              clear hbt
              refine hK.out _ _ ?_ (fun hHeld => ?_)
              · trivial
              clear hK K
              try simp only [Act.put, List.setIfInBounds_toArray, List.set_cons_zero, List.set_cons_succ]
              refine take_as 22 (some 56) (v := ?_) rfl rfl (by kernel_rfl) (by kernel_rfl) (by kernel_rfl) (fun _ _ _ h => h) (Or.inl ⟨by rfl, ?_⟩) (by assumption) ?_
              rotate_left 1
              · intro w2 hSw
                go_simp
                try with_reducible rfl
              try simp only [Act.put, List.setIfInBounds_toArray, List.set_cons_zero, List.set_cons_succ]
              refine take_as 23 (some 57) (v := ?_) rfl rfl (by kernel_rfl) (by kernel_rfl) (by kernel_rfl) (fun _ _ _ h => h) (Or.inl ⟨by rfl, ?_⟩) (by assumption) ?_
              rotate_left 1
              · intro w2 hSw
                go_simp
                try with_reducible rfl
              try simp only [Act.put, List.setIfInBounds_toArray, List.set_cons_zero, List.set_cons_succ]
              refine take_as 24 (some 58) (v := ?_) rfl rfl (by kernel_rfl) (by kernel_rfl) (by kernel_rfl) (fun _ _ _ h => h) (Or.inl ⟨by rfl, ?_⟩) (by assumption) ?_
              rotate_left 1
              · intro w2 hSw
                go_simp
                try with_reducible rfl
              try simp only [Act.put, List.setIfInBounds_toArray, List.set_cons_zero, List.set_cons_succ]
              refine wpAnyH_ready (rs := [25]) (by kernel_rfl) (by simp) ?_
              refine AllReadyH.cons rfl (fun K hK => ?_) ?_
              · have hc := H3.out.box.1 5 _ rfl
                have hf := H3.out.box.2.1 5
                go_simp
                refine name_world (fun w6 hwn => ?_)
                have hbt : But (fun k => k = x) w5 w6 := by rw [hwn]; exact But.setCell (S := fun k => k = x) (But.refl _ _) (p := ⟨x, 5, none⟩) rfl _
                replace H3 := hide (H3.out.setEs (.slice (some ⟨g17, 0, none⟩) 1 c17))
                rw [← hwn] at H3
                clear hwn hc hf
                replace HA9 := hide (HA9.out.but hbt (by omega))
                replace HA17 := hide (HA17.out.but hbt (by omega))
                replace HT := hide (HT.out.trans hbt)
                clear hbt
                refine hK.out _ _ ?_ (fun hHeld => ?_)
                · trivial
                clear hK K
                try simp only [Act.put, List.setIfInBounds_toArray, List.set_cons_zero, List.set_cons_succ]
                refine wpAnyH_done (by kernel_rfl) ?_ _
                go_wp2_with fail
                go_end0
                exact ⟨g9, c9, g17, c17, rfl, H3.out, HA9.out, HA17.out, by have := HbX.out.size; omega, by have := HbX.out.size; omega, (Below.but HbX.out _).thenNew HT.out (fun i e => .inl e)⟩
              exact AllReadyH.nil
            exact AllReadyZ.nil
          exact AllReadyZ.nil
        exact AllReadyZ.nil
      refine AllReadyZ.cons rfl (by kernel_rfl) (fun K hK => ?_) ?_
      · refine step_buildSlice_one (some 51) rfl rfl 55 164 8 128 elemFact (.tmp 50) rfl _ (fcL (.slice A1 n1 c1) (.slice A2 n2 c2) mu ma pa) rfl rfl rfl (by omega) ?_
        intro g16 w2 hHS16 Hg16W hbn
        have HS16 := hide hHS16
        have HB2 : Hid (Below X.heap.size X w2) := hide (HB1.out.trans (hbn.mono HB1.out.size))
        replace H3 := hide (H3.out.below hbn)
        replace H7 := hide (H7.out.below hbn)
        replace B5 := hide (B5.out.below hbn)
        replace HS8 := hide (HS8.out.below hbn)
        clear hHS16 hbn
        refine hK.out _ _ ?_ (fun hHeld => ?_)
        · exact ⟨H3.out.box, H7.out, B5.out⟩
        clear hK K
        try simp only [Act.put, List.setIfInBounds_toArray, List.set_cons_zero, List.set_cons_succ]
        refine wpAnyZ_ready (rs := [9]) (by kernel_rfl) (by simp) ?_
        refine AllReadyZ.cons rfl (by kernel_rfl) (fun K hK => ?_) ?_
        · refine step_append_to (some 44) rfl rfl (.tmp 41) (.tmp 43) 154 57 5 40 elemAbs rfl X.heap.size (.slice none 0 0) 0 [] rfl (own_nil _ _ _ _) g8 1 1 abL rfl HS8.out rfl abL_one (by omega) (by omega) HB2.out.size ?_
          intro g9 c9 w3 hA
          obtain ⟨hbn, hgn⟩ := hA.first
          have HA9 := hide hA.box
          have Hg9W : X.heap.size ≤ g9 := hA.base
          have Hg9N : w2.heap.size ≤ g9 := hgn
          have HB3 : Hid (Below X.heap.size X w3) := hide (HB2.out.trans (hbn.mono HB2.out.size))
          replace H3 := hide (H3.out.below hbn)
          replace H7 := hide (H7.out.below hbn)
          replace B5 := hide (B5.out.below hbn)
          replace HS8 := hide (HS8.out.below hbn)
          replace HS16 := hide (HS16.out.below hbn)
          clear hA hbn hgn
          refine hK.out _ _ ?_ (fun hHeld => ?_)
          · exact ⟨H3.out.box, H7.out, B5.out⟩
          clear hK K
          try simp only [Act.put, List.setIfInBounds_toArray, List.set_cons_zero, List.set_cons_succ]
          refine wpAnyZ_ready (rs := [17]) (by kernel_rfl) (by simp) ?_
          refine AllReadyZ.cons rfl (by kernel_rfl) (fun K hK => ?_) ?_
          · refine step_append_to (some 52) rfl rfl (.tmp 49) (.tmp 51) 55 164 8 128 elemFact rfl X.heap.size (.slice none 0 0) 0 [] rfl (own_nil _ _ _ _) g16 1 1 (fcL (.slice A1 n1 c1) (.slice A2 n2 c2) mu ma pa) rfl HS16.out rfl fcL_one (by omega) (by omega) HB3.out.size ?_
            intro g17 c17 w4 hA
            obtain ⟨hbn, hgn⟩ := hA.first
            have HA17 := hide hA.box
            have Hg17W : X.heap.size ≤ g17 := hA.base
            have Hg17N : w3.heap.size ≤ g17 := hgn
            have HB4 : Hid (Below X.heap.size X w4) := hide (HB3.out.trans (hbn.mono HB3.out.size))
            replace H3 := hide (H3.out.below hbn)
            replace H7 := hide (H7.out.below hbn)
            replace B5 := hide (B5.out.below hbn)
            replace HS8 := hide (HS8.out.below hbn)
            replace HS16 := hide (HS16.out.below hbn)
            replace HA9 := hide (HA9.out.below hbn)
            clear hA hbn hgn
            refine hK.out _ _ ?_ (fun hHeld => ?_)
            · exact ⟨H3.out.box, H7.out, B5.out⟩
            clear hK K
            try simp only [Act.put, List.setIfInBounds_toArray, List.set_cons_zero, List.set_cons_succ]
            refine takeZp 18 (some 53) (v := ?_) rfl rfl (by kernel_rfl) (by kernel_rfl) (by kernel_rfl) (fun _ _ _ h => h) (Or.inl ⟨by rfl, ?_⟩) (by assumption) (by kernel_rfl) ?_
            rotate_left 1
            · intro w2 hSw
              go_simp
              try with_reducible rfl
            try simp only [Act.put, List.setIfInBounds_toArray, List.set_cons_zero, List.set_cons_succ]
            refine takeZp 19 (some 54) (v := ?_) rfl rfl (by kernel_rfl) (by kernel_rfl) (by kernel_rfl) (fun _ _ _ h => h) (Or.inl ⟨by rfl, ?_⟩) (by assumption) (by kernel_rfl) ?_
            rotate_left 1
            · intro w2 hSw
              go_simp
              try with_reducible rfl
            try simp only [Act.put, List.setIfInBounds_toArray, List.set_cons_zero, List.set_cons_succ]
            refine takeZp 20 (some 55) (v := ?_) rfl rfl (by kernel_rfl) (by kernel_rfl) (by kernel_rfl) (fun _ _ _ h => h) (Or.inl ⟨by rfl, ?_⟩) (by assumption) (by kernel_rfl) ?_
            rotate_left 1
            · intro w2 hSw
              go_simp
              try with_reducible rfl
            try simp only [Act.put, List.setIfInBounds_toArray, List.set_cons_zero, List.set_cons_succ]
            refine wpAnyZ_ready (rs := [21]) (by kernel_rfl) (by simp) ?_
            refine AllReadyZ.last rfl (by kernel_rfl) (fun K hK => ?_) ?_
            · have hc := H3.out.box.1 4 _ rfl
              have hf := H3.out.box.2.1 4
              go_simp
              refine name_world (fun w5 hwn => ?_)
              have hbt : But (fun k => k = x) w4 w5 := by rw [hwn]; exact But.setCell (S := fun k => k = x) (But.refl _ _) (p := ⟨x, 4, none⟩) rfl _
              replace H3 := hide (H3.out.setRs (.slice (some ⟨g9, 0, none⟩) 1 c9))
              rw [← hwn] at H3
              clear hwn hc hf
              replace HA9 := hide (HA9.out.but hbt (by omega))
              replace HA17 := hide (HA17.out.but hbt (by omega))
              have HT : Hid (But (fun k => k = x) X w5) := hide ((Below.but HB4.out _).trans hbt)
              clear hbt
              refine hK.out _ _ ?_ (fun hHeld => ?_)
              · trivial
              clear hK K
              try simp only [Act.put, List.setIfInBounds_toArray, List.set_cons_zero, List.set_cons_succ]
              refine take_as 22 (some 56) (v := ?_) rfl rfl (by kernel_rfl) (by kernel_rfl) (by kernel_rfl) (fun _ _ _ h => h) (Or.inl ⟨by rfl, ?_⟩) (by assumption) ?_
              rotate_left 1
              · intro w2 hSw
                go_simp
                try with_reducible rfl
              try simp only [Act.put, List.setIfInBounds_toArray, List.set_cons_zero, List.set_cons_succ]
              refine take_as 23 (some 57) (v := ?_) rfl rfl (by kernel_rfl) (by kernel_rfl) (by kernel_rfl) (fun _ _ _ h => h) (Or.inl ⟨by rfl, ?_⟩) (by assumption) ?_
              rotate_left 1
              · intro w2 hSw
                go_simp
                try with_reducible rfl
              try simp only [Act.put, List.setIfInBounds_toArray, List.set_cons_zero, List.set_cons_succ]
              refine take_as 24 (some 58) (v := ?_) rfl rfl (by kernel_rfl) (by kernel_rfl) (by kernel_rfl) (fun _ _ _ h => h) (Or.inl ⟨by rfl, ?_⟩) (by assumption) ?_
              rotate_left 1
              · intro w2 hSw
                go_simp
                try with_reducible rfl
              try simp only [Act.put, List.setIfInBounds_toArray, List.set_cons_zero, List.set_cons_succ]
              refine wpAnyH_ready (rs := [25]) (by kernel_rfl) (by simp) ?_
              refine AllReadyH.cons rfl (fun K hK => ?_) ?_
              · have hc := H3.out.box.1 5 _ rfl
                have hf := H3.out.box.2.1 5
                go_simp
                refine name_world (fun w6 hwn => ?_)
                have hbt : But (fun k => k = x) w5 w6 := by rw [hwn]; exact But.setCell (S := fun k => k = x) (But.refl _ _) (p := ⟨x, 5, none⟩) rfl _
                replace H3 := hide (H3.out.setEs (.slice (some ⟨g17, 0, none⟩) 1 c17))
                rw [← hwn] at H3
                clear hwn hc hf
                replace HA9 := hide (HA9.out.but hbt (by omega))
                replace HA17 := hide (HA17.out.but hbt (by omega))
                replace HT := hide (HT.out.trans hbt)
                clear hbt
                refine hK.out _ _ ?_ (fun hHeld => ?_)
                · trivial
                clear hK K
                try simp only [Act.put, List.setIfInBounds_toArray, List.set_cons_zero, List.set_cons_succ]
                refine wpAnyH_done (by kernel_rfl) ?_ _
                go_wp2_with fail
                go_end0
                exact ⟨g9, c9, g17, c17, rfl, H3.out, HA9.out, HA17.out, by have := HbX.out.size; omega, by have := HbX.out.size; omega, (Below.but HbX.out _).thenNew HT.out (fun i e => .inl e)⟩
              exact AllReadyH.nil
            exact AllReadyZ.nil
          exact AllReadyZ.nil
        exact AllReadyZ.nil
      exact AllReadyZ.nil
    refine AllReadyZ.cons rfl (by kernel_rfl) (fun K hK => ?_) ?_
    · refine step_buildSlice_one (some 51) rfl rfl 55 164 8 128 elemFact (.tmp 50) rfl _ (fcL (.slice A1 n1 c1) (.slice A2 n2 c2) mu ma pa) rfl rfl rfl (by omega) ?_
      intro g16 w1 hHS16 Hg16W hbn
      have HS16 := hide hHS16
      have HB1 : Hid (Below X.heap.size X w1) := hide (HB0.out.trans (hbn.mono HB0.out.size))
      replace H3 := hide (H3.out.below hbn)
      replace H7 := hide (H7.out.below hbn)
      replace B5 := hide (B5.out.below hbn)
      clear hHS16 hbn
      refine hK.out _ _ ?_ (fun hHeld => ?_)
      · exact ⟨H3.out.box, H7.out, B5.out⟩
      clear hK K
      try simp only [Act.put, List.setIfInBounds_toArray, List.set_cons_zero, List.set_cons_succ]
      refine wpAnyZ_ready (rs := [8]) (by kernel_rfl) (by simp) ?_
      refine AllReadyZ.cons rfl (by kernel_rfl) (fun K hK => ?_) ?_
      · refine step_buildSlice_one (some 43) rfl rfl 154 57 5 40 elemAbs (.tmp 42) rfl _ abL rfl rfl rfl (by omega) ?_
        intro g8 w2 hHS8 Hg8W hbn
        have HS8 := hide hHS8
        have HB2 : Hid (Below X.heap.size X w2) := hide (HB1.out.trans (hbn.mono HB1.out.size))
        replace H3 := hide (H3.out.below hbn)
        replace H7 := hide (H7.out.below hbn)
        replace B5 := hide (B5.out.below hbn)
        replace HS16 := hide (HS16.out.below hbn)
        clear hHS8 hbn
        refine hK.out _ _ ?_ (fun hHeld => ?_)
        · exact ⟨H3.out.box, H7.out, B5.out⟩
        clear hK K
        try simp only [Act.put, List.setIfInBounds_toArray, List.set_cons_zero, List.set_cons_succ]
        refine wpAnyZ_ready (rs := [9]) (by kernel_rfl) (by simp) ?_
        refine AllReadyZ.cons rfl (by kernel_rfl) (fun K hK => ?_) ?_
        · refine step_append_to (some 44) rfl rfl (.tmp 41) (.tmp 43) 154 57 5 40 elemAbs rfl X.heap.size (.slice none 0 0) 0 [] rfl (own_nil _ _ _ _) g8 1 1 abL rfl HS8.out rfl abL_one (by omega) (by omega) HB2.out.size ?_
          intro g9 c9 w3 hA
          obtain ⟨hbn, hgn⟩ := hA.first
          have HA9 := hide hA.box
          have Hg9W : X.heap.size ≤ g9 := hA.base
          have Hg9N : w2.heap.size ≤ g9 := hgn
          have HB3 : Hid (Below X.heap.size X w3) := hide (HB2.out.trans (hbn.mono HB2.out.size))
          replace H3 := hide (H3.out.below hbn)
          replace H7 := hide (H7.out.below hbn)
          replace B5 := hide (B5.out.below hbn)
          replace HS16 := hide (HS16.out.below hbn)
          replace HS8 := hide (HS8.out.below hbn)
          clear hA hbn hgn
          refine hK.out _ _ ?_ (fun hHeld => ?_)
          · exact ⟨H3.out.box, H7.out, B5.out⟩
          clear hK K
          try simp only [Act.put, List.setIfInBounds_toArray, List.set_cons_zero, List.set_cons_succ]
          refine wpAnyZ_ready (rs := [17]) (by kernel_rfl) (by simp) ?_
          refine AllReadyZ.cons rfl (by kernel_rfl) (fun K hK => ?_) ?_
          · refine step_append_to (some 52) rfl rfl (.tmp 49) (.tmp 51) 55 164 8 128 elemFact rfl X.heap.size (.slice none 0 0) 0 [] rfl (own_nil _ _ _ _) g16 1 1 (fcL (.slice A1 n1 c1) (.slice A2 n2 c2) mu ma pa) rfl HS16.out rfl fcL_one (by omega) (by omega) HB3.out.size ?_
            intro g17 c17 w4 hA
            obtain ⟨hbn, hgn⟩ := hA.first
            have HA17 := hide hA.box
            have Hg17W : X.heap.size ≤ g17 := hA.base
            have Hg17N : w3.heap.size ≤ g17 := hgn
            have HB4 : Hid (Below X.heap.size X w4) := hide (HB3.out.trans (hbn.mono HB3.out.size))
            replace H3 := hide (H3.out.below hbn)
            replace H7 := hide (H7.out.below hbn)
            replace B5 := hide (B5.out.below hbn)
            replace HS16 := hide (HS16.out.below hbn)
            replace HS8 := hide (HS8.out.below hbn)
            replace HA9 := hide (HA9.out.below hbn)
            clear hA hbn hgn
            refine hK.out _ _ ?_ (fun hHeld => ?_)
            · exact ⟨H3.out.box, H7.out, B5.out⟩
            clear hK K
            try simp only [Act.put, List.setIfInBounds_toArray, List.set_cons_zero, List.set_cons_succ]
            refine takeZp 18 (some 53) (v := ?_) rfl rfl (by kernel_rfl) (by kernel_rfl) (by kernel_rfl) (fun _ _ _ h => h) (Or.inl ⟨by rfl, ?_⟩) (by assumption) (by kernel_rfl) ?_
            rotate_left 1
            · intro w2 hSw
              go_simp
              try with_reducible rfl
            try simp only [Act.put, List.setIfInBounds_toArray, List.set_cons_zero, List.set_cons_succ]
            refine takeZp 19 (some 54) (v := ?_) rfl rfl (by kernel_rfl) (by kernel_rfl) (by kernel_rfl) (fun _ _ _ h => h) (Or.inl ⟨by rfl, ?_⟩) (by assumption) (by kernel_rfl) ?_
            rotate_left 1
            · intro w2 hSw
              go_simp
              try with_reducible rfl
            try simp only [Act.put, List.setIfInBounds_toArray, List.set_cons_zero, List.set_cons_succ]
            refine takeZp 20 (some 55) (v := ?_) rfl rfl (by kernel_rfl) (by kernel_rfl) (by kernel_rfl) (fun _ _ _ h => h) (Or.inl ⟨by rfl, ?_⟩) (by assumption) (by kernel_rfl) ?_
            rotate_left 1
            · intro w2 hSw
              go_simp
              try with_reducible rfl
            try simp only [Act.put, List.setIfInBounds_toArray, List.set_cons_zero, List.set_cons_succ]
            refine wpAnyZ_ready (rs := [21]) (by kernel_rfl) (by simp) ?_
            refine AllReadyZ.last rfl (by kernel_rfl) (fun K hK => ?_) ?_
            · have hc := H3.out.box.1 4 _ rfl
              have hf := H3.out.box.2.1 4
              go_simp
              refine name_world (fun w5 hwn => ?_)
              have hbt : But (fun k => k = x) w4 w5 := by rw [hwn]; exact But.setCell (S := fun k => k = x) (But.refl _ _) (p := ⟨x, 4, none⟩) rfl _
              replace H3 := hide (H3.out.setRs (.slice (some ⟨g9, 0, none⟩) 1 c9))
              rw [← hwn] at H3
              clear hwn hc hf
              replace HA9 := hide (HA9.out.but hbt (by omega))
              replace HA17 := hide (HA17.out.but hbt (by omega))
              have HT : Hid (But (fun k => k = x) X w5) := hide ((Below.but HB4.out _).trans hbt)
              clear hbt
              refine hK.out _ _ ?_ (fun hHeld => ?_)
              · trivial
              clear hK K
              try simp only [Act.put, List.setIfInBounds_toArray, List.set_cons_zero, List.set_cons_succ]
              refine take_as 22 (some 56) (v := ?_) rfl rfl (by kernel_rfl) (by kernel_rfl) (by kernel_rfl) (fun _ _ _ h => h) (Or.inl ⟨by rfl, ?_⟩) (by assumption) ?_
              rotate_left 1
              · intro w2 hSw
                go_simp
                try with_reducible rfl
              try simp only [Act.put, List.setIfInBounds_toArray, List.set_cons_zero, List.set_cons_succ]
              refine take_as 23 (some 57) (v := ?_) rfl rfl (by kernel_rfl) (by kernel_rfl) (by kernel_rfl) (fun _ _ _ h => h) (Or.inl ⟨by rfl, ?_⟩) (by assumption) ?_
              rotate_left 1
              · intro w2 hSw
                go_simp
                try with_reducible rfl
              try simp only [Act.put, List.setIfInBounds_toArray, List.set_cons_zero, List.set_cons_succ]
              refine take_as 24 (some 58) (v := ?_) rfl rfl (by kernel_rfl) (by kernel_rfl) (by kernel_rfl) (fun _ _ _ h => h) (Or.inl ⟨by rfl, ?_⟩) (by assumption) ?_
              rotate_left 1
              · intro w2 hSw
                go_simp
                try with_reducible rfl
              try simp only [Act.put, List.setIfInBounds_toArray, List.set_cons_zero, List.set_cons_succ]
              refine wpAnyH_ready (rs := [25]) (by kernel_rfl) (by simp) ?_
              refine AllReadyH.cons rfl (fun K hK => ?_) ?_
              · have hc := H3.out.box.1 5 _ rfl
                have hf := H3.out.box.2.1 5
                go_simp
                refine name_world (fun w6 hwn => ?_)
                have hbt : But (fun k => k = x) w5 w6 := by rw [hwn]; exact But.setCell (S := fun k => k = x) (But.refl _ _) (p := ⟨x, 5, none⟩) rfl _
                replace H3 := hide (H3.out.setEs (.slice (some ⟨g17, 0, none⟩) 1 c17))
                rw [← hwn] at H3
                clear hwn hc hf
                replace HA9 := hide (HA9.out.but hbt (by omega))
                replace HA17 := hide (HA17.out.but hbt (by omega))
                replace HT := hide (HT.out.trans hbt)
                clear hbt
                refine hK.out _ _ ?_ (fun hHeld => ?_)
                · trivial
                clear hK K
                try simp only [Act.put, List.setIfInBounds_toArray, List.set_cons_zero, List.set_cons_succ]
                refine wpAnyH_done (by kernel_rfl) ?_ _
                go_wp2_with fail
                go_end0
                exact ⟨g9, c9, g17, c17, rfl, H3.out, HA9.out, HA17.out, by have := HbX.out.size; omega, by have := HbX.out.size; omega, (Below.but HbX.out _).thenNew HT.out (fun i e => .inl e)⟩
              exact AllReadyH.nil
            exact AllReadyZ.nil
          exact AllReadyZ.nil
        exact AllReadyZ.nil
      exact AllReadyZ.nil
    exact AllReadyZ.nil
end Go.Proofs.YthhfakkfdohcpaaGreat
