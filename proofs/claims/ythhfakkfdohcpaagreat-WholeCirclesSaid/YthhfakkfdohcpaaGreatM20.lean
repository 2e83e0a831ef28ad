/- whole's proof and Find at the proofs of the examples. No condition. -/
import Derived.Test.YthhfakkfdohcpaaGreatM19
import Derived.Test.YthhfakkfdohcpaaGreatM12
namespace Go.Proofs.YthhfakkfdohcpaaGreat
open Go.RowKit Go.ChangeMaps Go.MapKept
def PfTo (w : World) (l : List Value) (b : Bool) (e : Ending) (w' : World) : Prop := e = .returned (.tuple #[.agg l.toArray, .bool b]) ∧ Below w.heap.size w w'
theorem pfZ_one0 : ∀ u ∈ pfZ, u.oneCell' = true := pfZ_one
set_option maxRecDepth 100000 in
set_option maxHeartbeats 4000000 in
theorem proof0 (k : Int) (w : World) : Calls Tryz.prog 23 #[.slice none 0 0, .int .i64 k] w (PfTo w pfZ false) := by
  go_enter Tryz.func23, Tryz.ntmps23
  go_upto_region 1 with (fail)
  obtain ⟨W, hW⟩ : ∃ V, V = w.alloc (.cells pfZ.toArray 61) := ⟨_, rfl⟩
  have hb4 := BoxAt.new w pfZ 61
  have hbW : Below w.heap.size w (w.alloc (.cells pfZ.toArray 61)) := (Below.refl _ w).alloc (Nat.le_refl _) _
  rw [← hW] at hb4 hbW
  simp only [pfZ, pfL, smZ, List.cons_append, List.nil_append] at hW
  rw [← hW]
  clear hW
  have H4 := hide hb4
  have HbW := hide hbW
  clear hb4 hbW
  go_wp2_with (first
    | (have h43 := HV4; clear h43; exact bodyPost_ret (res_box2 (cs := pfZ) rfl rfl rfl HV4.out Tryz.underlying61 rfl (by kernel_rfl)) rfl ⟨rfl, HbW.out.trans (HTV4.out.below (by have := HbW.out.size; omega) (fun k hk => by omega))⟩)
    | (go_at_call 38; refine (bs0 _ _ _).mono ?_; rintro e w1 ⟨rfl, rfl⟩)
    | ((with_reducible refine wpList_store_in ?_ ?_ 61 (.tmp 4) (.tmp 16) ?_ (w.heap.size) 0 pfZ pfZ pfZ ?_ ?_ ?_ ?_ ?_ ?_ ?_ ?_); (focus rfl); (focus rfl); (focus rfl); (focus rfl); (focus rfl); (focus exact H4.out); (focus (show 0 + 16 ≤ 16; decide)); (focus rfl); (focus kernel_rfl); (focus exact pfZ_one0); intro V4 hV4 hTV4; have HV4 := hide hV4; have HTV4 := hide hTV4; clear hV4 hTV4))
set_option maxRecDepth 100000 in
set_option maxHeartbeats 4000000 in
theorem proof1 (p : Pv) (hp : p.id = 1) (g c : Nat) (k : Int) (hk : k = 1 ∨ k = 2) (w : World) (hb : BoxAt w g (pvL p)) : Calls Tryz.prog 23 #[.slice (some ⟨g, 0, none⟩) 1 c, .int .i64 k] w (PfTo w (if k = 1 then pvL p else pfZ) (k == 1)) := by
  have hgw := hb.2.2
  have H := hide hb; clear hb
  rcases hk with rfl | rfl
  all_goals
    go_enter Tryz.func23, Tryz.ntmps23
    go_upto_region 1 with (fail)
    obtain ⟨W, hW⟩ : ∃ V, V = w.alloc (.cells pfZ.toArray 61) := ⟨_, rfl⟩
    have hb4 := BoxAt.new w pfZ 61
    have hbW : Below w.heap.size w (w.alloc (.cells pfZ.toArray 61)) := (Below.refl _ w).alloc (Nat.le_refl _) _
    rw [← hW] at hb4 hbW
    simp only [pfZ, pfL, smZ, List.cons_append, List.nil_append] at hW
    rw [← hW]
    clear hW
    have H4 := hide hb4
    have HbW := hide hbW
    clear hb4 hbW
    replace H := hide (H.out.below HbW.out)
    go_wp2_with (first
      | (have h43 := HV4; clear h43; exact bodyPost_ret (res_box2 (cs := pvL p) rfl rfl rfl HV4.out Tryz.underlying61 rfl (by kernel_rfl)) rfl ⟨rfl, HbW.out.trans (HTV4.out.below (by have := HbW.out.size; omega) (fun k hk => by omega))⟩)
      | (have h43 := HV4; clear h43; exact bodyPost_ret (res_box2 (cs := pfZ) rfl rfl rfl HV4.out Tryz.underlying61 rfl (by kernel_rfl)) rfl ⟨rfl, HbW.out.trans (HTV4.out.below (by have := HbW.out.size; omega) (fun k hk => by omega))⟩)
      | (go_at_call 38; refine (bs1P p hp _ (by omega) g c _ H.out).mono ?_; rintro e w1 ⟨rfl, hb1⟩; replace H := hide (H.out.below hb1); replace H4 := hide (H4.out.below hb1); replace HbW := hide (HbW.out.trans (hb1.mono HbW.out.size)); clear hb1)
      | ((with_reducible refine wpList_load_mid ?_ 61 (.tmp 19) ?_ (g) (0) ?_ (pvL p) _ ?_ Tryz.underlying61 ?_ ?_ ?_); (focus rfl); (focus rfl); (focus rfl); (focus exact H.out.whole); (focus rfl); (focus kernel_rfl))
      | ((with_reducible refine wpList_store_in ?_ ?_ 61 (.tmp 4) (.tmp 20) ?_ (w.heap.size) 0 pfZ (pvL p) (pvL p) ?_ ?_ ?_ ?_ ?_ ?_ ?_ ?_); (focus rfl); (focus rfl); (focus rfl); (focus rfl); (focus rfl); (focus exact H4.out); (focus (show 0 + 16 ≤ 16; decide)); (focus rfl); (focus kernel_rfl); (focus exact pvL_one p); intro V4 hV4 hTV4; have HV4 := hide hV4; have HTV4 := hide hTV4; clear hV4 hTV4)
      | ((with_reducible refine wpList_store_in ?_ ?_ 61 (.tmp 4) (.tmp 16) ?_ (w.heap.size) 0 pfZ pfZ pfZ ?_ ?_ ?_ ?_ ?_ ?_ ?_ ?_); (focus rfl); (focus rfl); (focus rfl); (focus rfl); (focus rfl); (focus exact H4.out); (focus (show 0 + 16 ≤ 16; decide)); (focus rfl); (focus kernel_rfl); (focus exact pfZ_one0); intro V4 hV4 hTV4; have HV4 := hide hV4; have HTV4 := hide hTV4; clear hV4 hTV4))
set_option maxRecDepth 100000 in
set_option maxHeartbeats 4000000 in
theorem proof2 (p1 p2 : Pv) (hp1 : p1.id = 1) (hp2 : p2.id = 2) (g c : Nat) (k : Int) (hk : k = 1 ∨ k = 2) (w : World) (hb : BoxAt w g (pvL p1 ++ pvL p2)) : Calls Tryz.prog 23 #[.slice (some ⟨g, 0, none⟩) 2 c, .int .i64 k] w (PfTo w (pvL (if k = 1 then p1 else p2)) true) := by
  have hgw := hb.2.2
  have H := hide hb; clear hb
  rcases hk with rfl | rfl
  all_goals
    go_enter Tryz.func23, Tryz.ntmps23
    go_upto_region 1 with (fail)
    obtain ⟨W, hW⟩ : ∃ V, V = w.alloc (.cells pfZ.toArray 61) := ⟨_, rfl⟩
    have hb4 := BoxAt.new w pfZ 61
    have hbW : Below w.heap.size w (w.alloc (.cells pfZ.toArray 61)) := (Below.refl _ w).alloc (Nat.le_refl _) _
    rw [← hW] at hb4 hbW
    simp only [pfZ, pfL, smZ, List.cons_append, List.nil_append] at hW
    rw [← hW]
    clear hW
    have H4 := hide hb4
    have HbW := hide hbW
    clear hb4 hbW
    replace H := hide (H.out.below HbW.out)
    go_wp2_with (first
      | (have h43 := HV4; clear h43; exact bodyPost_ret (res_box2 (cs := pvL p1) rfl rfl rfl HV4.out Tryz.underlying61 rfl (by kernel_rfl)) rfl ⟨rfl, HbW.out.trans (HTV4.out.below (by have := HbW.out.size; omega) (fun k hk => by omega))⟩)
      | (have h43 := HV4; clear h43; exact bodyPost_ret (res_box2 (cs := pvL p2) rfl rfl rfl HV4.out Tryz.underlying61 rfl (by kernel_rfl)) rfl ⟨rfl, HbW.out.trans (HTV4.out.below (by have := HbW.out.size; omega) (fun k hk => by omega))⟩)
      | (go_at_call 38; refine (bs2P p1 p2 hp1 hp2 _ (by omega) g c _ H.out).mono ?_; rintro e w1 ⟨rfl, hb1⟩; replace H := hide (H.out.below hb1); replace H4 := hide (H4.out.below hb1); replace HbW := hide (HbW.out.trans (hb1.mono HbW.out.size)); clear hb1)
      | ((with_reducible refine wpList_load_mid ?_ 61 (.tmp 19) ?_ (g) (0) ?_ (pvL p1) _ ?_ Tryz.underlying61 ?_ ?_ ?_); (focus rfl); (focus rfl); (focus rfl); (focus exact H.out.sub 0 (pvL p1) rfl); (focus rfl); (focus kernel_rfl))
      | ((with_reducible refine wpList_load_mid ?_ 61 (.tmp 19) ?_ (g) (16) ?_ (pvL p2) _ ?_ Tryz.underlying61 ?_ ?_ ?_); (focus rfl); (focus rfl); (focus rfl); (focus exact H.out.sub 16 (pvL p2) rfl); (focus rfl); (focus kernel_rfl))
      | ((with_reducible refine wpList_store_in ?_ ?_ 61 (.tmp 4) (.tmp 20) ?_ (w.heap.size) 0 pfZ (pvL p1) (pvL p1) ?_ ?_ ?_ ?_ ?_ ?_ ?_ ?_); (focus rfl); (focus rfl); (focus rfl); (focus rfl); (focus rfl); (focus exact H4.out); (focus (show 0 + 16 ≤ 16; decide)); (focus rfl); (focus kernel_rfl); (focus exact pvL_one p1); intro V4 hV4 hTV4; have HV4 := hide hV4; have HTV4 := hide hTV4; clear hV4 hTV4)
      | ((with_reducible refine wpList_store_in ?_ ?_ 61 (.tmp 4) (.tmp 20) ?_ (w.heap.size) 0 pfZ (pvL p2) (pvL p2) ?_ ?_ ?_ ?_ ?_ ?_ ?_ ?_); (focus rfl); (focus rfl); (focus rfl); (focus rfl); (focus rfl); (focus exact H4.out); (focus (show 0 + 16 ≤ 16; decide)); (focus rfl); (focus kernel_rfl); (focus exact pvL_one p2); intro V4 hV4 hTV4; have HV4 := hide hV4; have HTV4 := hide hTV4; clear hV4 hTV4))
end Go.Proofs.YthhfakkfdohcpaaGreat
/- The summary of a routine of which nothing is known. No condition. -/
namespace Go.Proofs.YthhfakkfdohcpaaGreat
open Go.RowKit Go.ChangeMaps Go.MapKept
/-- The cells of a summary of which nothing is known. -/
def tpL (id : Int) (v : Value) : List Value := [.int .i64 id, .int .i64 (-2147483648), .int .i64 2147483647, .int .i64 1, .int .i64 0, .int .i64 255, .int .i64 4294967294, .int .i64 7, .int .i64 0, v, .int .i64 1099511627776]
theorem tpL_one {id : Int} {v : Value} (hv : v.oneCell' = true) : ∀ u ∈ tpL id v, u.oneCell' = true := by
  intro u hu
  simp only [tpL, List.mem_cons, List.not_mem_nil, or_false] at hu
  rcases hu with rfl | rfl | rfl | rfl | rfl | rfl | rfl | rfl | rfl | rfl | rfl <;> first | rfl | exact hv
def hdL (id : Int) : List Value := [.int .i64 id, .int .i64 0, .int .i64 0, .slice none 0 0, .slice none 0 0]
theorem hd_one {id : Int} : ∀ u ∈ hdL id, u.oneCell' = true := by
  intro u hu
  simp only [hdL, List.mem_cons, List.not_mem_nil, or_false] at hu
  rcases hu with rfl | rfl | rfl | rfl | rfl <;> rfl
theorem own_one {w : World} {B size n : Nat} {e : TypeId} {v : Value} {xs : List Value} (h : w.ownsRow B e size v n xs) : v.oneCell' = true := by
  obtain ⟨-, ⟨rfl, -⟩ | ⟨g, cap, cur, rfl, -⟩⟩ := h <;> rfl
def TopRel (id : Int) (g8 : Nat) (w : World) (m : Nat) (wr : World) : Prop :=
  ∃ v n xs, BoxAt wr g8 (tpL id v) ∧ wr.ownsRow w.heap.size 29 3 v n xs ∧ n ≤ m ∧ But (fun k => k = g8) w wr
def TopTo (w : World) (id : Int) (e : Ending) (w' : World) : Prop :=
  ∃ v, v.oneCell' = true ∧ e = .returned (.tuple #[.agg (tpL id v).toArray, .int .i64 0]) ∧ Below w.heap.size w w'
set_option maxRecDepth 100000 in
set_option maxHeartbeats 8000000 in
theorem top_any (b : Nat → Nat) (id : Int) (hid : id = 1 ∨ id = 2) (w : World) (h : BoxAt w (b 4) headL) : Calls Tryz.prog 74 #[.agg (pgL b).toArray, .int .i64 id] w (TopTo w id) := by
  have hhead : ∀ W, BoxAt W (b 4) headL → Calls Tryz.prog 86 #[.agg (pgL b).toArray, .int .i64 id] W fun e w' => e = .returned (.tuple #[.agg (hdL id).toArray, .bool true]) ∧ Below W.heap.size W w' := by
    rcases hid with rfl | rfl
    · exact fun W hW => headof_one (b 4) _ _ _ _ _ _ _ _ _ W hW
    · exact fun W hW => headof_two (b 4) _ _ _ _ _ _ _ _ _ W hW
  have Hhead := hide hhead; clear hhead
  have H := hide h; clear h
  go_enter Tryz.func74, Tryz.ntmps74
  simp only [pgL]
  go_upto_region 1 with (fail)
  obtain ⟨W, hW⟩ : ∃ V, V = (w.alloc (.cells (pgL b).toArray 48)).alloc (.cells smZ.toArray 59) := ⟨_, rfl⟩
  have hb2 := boxes2 w _ _ _ _ W hW
  have hW' := hW
  simp only [pgL, smZ] at hW'
  rw [← hW']
  clear hW hW'
  obtain ⟨b2, b4, hz, hbW⟩ := hb2
  have H2 := hide b2
  have H4 := hide b4
  have HbW := hide hbW
  have Hz := hide hz
  replace H := hide (H.out.below hbW)
  clear b2 b4 hbW hz
  go_upto_region 2 with (first
    | ((with_reducible refine wpList_load_mid ?_ 48 (.tmp 2) ?_ (w.heap.size) (0) ?_ (pgL b) _ ?_ Tryz.underlying48 ?_ ?_ ?_); (focus rfl); (focus rfl); (focus rfl); (focus exact H2.out.whole); (focus rfl); (focus kernel_rfl); simp only [pgL])
    | (go_at_call 86; refine (Hhead.out _ H.out).mono ?_; rintro e w1 ⟨rfl, hb1⟩; replace H2 := hide (H2.out.below hb1); replace H4 := hide (H4.out.below hb1); replace HbW := hide (HbW.out.trans (hb1.mono HbW.out.size)); replace Hz : Hid (w.heap.size + 2 ≤ w1.heap.size) := hide (by have := Hz.out; have := hb1.size; omega); clear hb1)
    | ((with_reducible refine wpList_store_new ?_ ?_ 86 (.tmp 6) (.tmp 15) ?_ (hdL id) ?_ ?_ ?_ ?_ ?_ ?_); (focus rfl); (focus rfl); (focus rfl); (focus rfl); (focus rfl); (focus rfl); (focus kernel_rfl); (focus exact hd_one); intro V6 hV6 hbV6; have HV6 := hide hV6; have HbV6 := hide hbV6; clear hV6 hbV6))
  replace H2 := hide (H2.out.below HbV6.out)
  replace H4 := hide (H4.out.below HbV6.out)
  replace HbW := hide (HbW.out.trans (HbV6.out.mono HbW.out.size))
  replace Hz : Hid (w.heap.size + 2 ≤ V6.heap.size) := hide (by have := Hz.out; have := HbV6.out.size; omega)
  clear HbV6 HV6 H Hhead
  go_upto_region 4 with (fail)
  go_cut [8] (fun t wx => ∃ g8, t = .pointer (some ⟨g8, 0, none⟩) ∧ BoxAt wx g8 (tpL id (.slice none 0 0)) ∧ V6.heap.size ≤ g8 ∧ Below V6.heap.size V6 wx)
  case first =>
    refine wp_region_held_drew (S := fun w' => BoxAt w' w.heap.size (pgL b)) (by kernel_rfl) ?_ (fun hHeld => ?_)
    · exact H2.out.below (Below.refl _ _).drew
    generalize hw0 : World.drew V6 = w0 at hHeld ⊢
    have HB0 : Hid (Below V6.heap.size V6 w0) := hide (by rw [← hw0]; exact (Below.refl _ V6).drew)
    replace H2 := hide (H2.out.below HB0.out)
    replace H4 := hide (H4.out.below HB0.out)
    clear hw0
    refine take_as 0 (some 20) (v := ?_) rfl rfl (by kernel_rfl) (by kernel_rfl) (by kernel_rfl) (fun _ _ _ h => h) (Or.inl ⟨by rfl, ?_⟩) (by assumption) ?_
    rotate_left 1
    · intro w2 hSw
      go_simp
      try with_reducible rfl
    try simp only [Act.put, List.setIfInBounds_toArray, List.set_cons_zero, List.set_cons_succ]
    refine take_as 2 (some 22) (v := ?_) rfl rfl (by kernel_rfl) (by kernel_rfl) (by kernel_rfl) (fun _ _ _ h => h) (Or.inl ⟨by rfl, ?_⟩) (by assumption) ?_
    rotate_left 1
    · intro w2 hSw
      go_simp
      try with_reducible rfl
    try simp only [Act.put, List.setIfInBounds_toArray, List.set_cons_zero, List.set_cons_succ]
    refine take_as 3 (some 23) (v := ?_) rfl rfl (by kernel_rfl) (by kernel_rfl) (by kernel_rfl) (fun _ _ _ h => h) (Or.inl ⟨by rfl, ?_⟩) (by assumption) ?_
    rotate_left 1
    · intro w2 hSw
      go_simp
      try with_reducible rfl
    try simp only [Act.put, List.setIfInBounds_toArray, List.set_cons_zero, List.set_cons_succ]
    refine take_as 4 (some 24) (v := ?_) rfl rfl (by kernel_rfl) (by kernel_rfl) (by kernel_rfl) (fun _ _ _ h => h) (Or.inl ⟨by rfl, ?_⟩) (by assumption) ?_
    rotate_left 1
    · intro w2 hSw
      have hl := hSw.1 4 _ rfl
      go_simp
      try with_reducible rfl
    try simp only [Act.put, List.setIfInBounds_toArray, List.set_cons_zero, List.set_cons_succ]
    refine take_as 5 (some 25) (v := ?_) rfl rfl (by kernel_rfl) (by kernel_rfl) (by kernel_rfl) (fun _ _ _ h => h) (Or.inl ⟨by rfl, ?_⟩) (by assumption) ?_
    rotate_left 1
    · intro w2 hSw
      go_simp
      try with_reducible rfl
    try simp only [Act.put, List.setIfInBounds_toArray, List.set_cons_zero, List.set_cons_succ]
    refine take_as 6 (some 26) (v := ?_) rfl rfl (by kernel_rfl) (by kernel_rfl) (by kernel_rfl) (fun _ _ _ h => h) (Or.inl ⟨by rfl, ?_⟩) (by assumption) ?_
    rotate_left 1
    · intro w2 hSw
      go_simp
      try with_reducible rfl
    try simp only [Act.put, List.setIfInBounds_toArray, List.set_cons_zero, List.set_cons_succ]
    refine wpAnyH_ready (rs := [1, 8]) (by kernel_rfl) (by simp) ?_
    refine AllReadyH.cons rfl (fun K hK => ?_) ?_
    · go_simp
      refine (all_255 _).mono ?_
      rintro e w1 ⟨rfl, hbx⟩
      have hbn : Below w0.heap.size w0 w1 := hbx
      have HB1 : Hid (Below V6.heap.size V6 w1) := hide (HB0.out.trans (hbn.mono HB0.out.size))
      replace H2 := hide (H2.out.below hbn)
      replace H4 := hide (H4.out.below hbn)
      clear hbn hbx
      go_wp2_with fail
      refine hK.out _ _ ?_ (fun hHeld => ?_)
      · exact H2.out
      clear hK K
      try simp only [Act.put, List.setIfInBounds_toArray, List.set_cons_zero, List.set_cons_succ]
      refine take_as 7 (some 27) (v := ?_) rfl rfl (by kernel_rfl) (by kernel_rfl) (by kernel_rfl) (fun _ _ _ h => h) (Or.inl ⟨by rfl, ?_⟩) (by assumption) ?_
      rotate_left 1
      · intro w2 hSw
        go_simp
        try with_reducible rfl
      try simp only [Act.put, List.setIfInBounds_toArray, List.set_cons_zero, List.set_cons_succ]
      refine wpAnyH_ready (rs := [8]) (by kernel_rfl) (by simp) ?_
      refine AllReadyH.cons rfl (fun K hK => ?_) ?_
      · go_simp
        refine name_world (fun w2 hwn => ?_)
        have hbn : Below w1.heap.size w1 w2 := by rw [hwn]; exact (Below.refl _ _).alloc (Nat.le_refl _) _
        have hHZ : BoxAt w2 w1.heap.size smZ := by rw [hwn]; exact BoxAt.new _ _ _
        clear hwn
        have HB2 : Hid (Below V6.heap.size V6 w2) := hide (HB1.out.trans (hbn.mono HB1.out.size))
        obtain ⟨g8, hqg8⟩ : ∃ q, q = w1.heap.size := ⟨_, rfl⟩
        replace H2 := hide (H2.out.below hbn)
        replace H4 := hide (H4.out.below hbn)
        have Hg8W : V6.heap.size ≤ g8 := by rw [hqg8]; exact HB1.out.size
        rw [← hqg8] at hHZ ⊢
        have HZ := hide hHZ
        clear hqg8 hHZ hbn
        refine hK.out _ _ ?_ (fun hHeld => ?_)
        · exact H2.out
        clear hK K
        try simp only [Act.put, List.setIfInBounds_toArray, List.set_cons_zero, List.set_cons_succ]
        refine wpAnyH_ready (rs := [9]) (by kernel_rfl) (by simp) ?_
        refine AllReadyH.cons rfl (fun K hK => ?_) ?_
        · refine step_store_as rfl rfl 59 (.tmp 8) (.tmp 27) rfl g8 0 (tpL id (.slice none 0 0)).toArray rfl rfl (HZ.out.there 0 _ (by show 0 + 11 ≤ 11; decide)) (by kernel_rfl) (all_oneCell_toArray (tpL_one rfl)) ?_
          refine after_put 0 (tpL id (.slice none 0 0)) _ HZ.out (by show 0 + 11 ≤ 11; decide) rfl (fun w3 hV5 hT5 => ?_)
          have HB3 : Hid (Below V6.heap.size V6 w3) := hide (HB2.out.trans (hT5.below HB2.out.size (fun k hk => by omega)))
          have HV5 := hide hV5
          replace H2 := hide (BoxAt.but H2.out hT5 (by have := Hz.out; omega))
          clear hV5 hT5
          refine hK.out _ _ ?_ (fun hHeld => ?_)
          · exact H2.out
          clear hK K
          try simp only [Act.put, List.setIfInBounds_toArray, List.set_cons_zero, List.set_cons_succ]
          refine wpAnyH_done (by kernel_rfl) ?_ _
          go_wp2_with fail
          go_meet
          exact ⟨g8, rfl, HV5.out, Hg8W, HB3.out⟩
        exact AllReadyH.nil
      exact AllReadyH.nil
    refine AllReadyH.cons rfl (fun K hK => ?_) ?_
    · go_simp
      refine name_world (fun w1 hwn => ?_)
      have hbn : Below w0.heap.size w0 w1 := by rw [hwn]; exact (Below.refl _ _).alloc (Nat.le_refl _) _
      have hHZ : BoxAt w1 w0.heap.size smZ := by rw [hwn]; exact BoxAt.new _ _ _
      clear hwn
      have HB1 : Hid (Below V6.heap.size V6 w1) := hide (HB0.out.trans (hbn.mono HB0.out.size))
      obtain ⟨g8, hqg8⟩ : ∃ q, q = w0.heap.size := ⟨_, rfl⟩
      replace H2 := hide (H2.out.below hbn)
      replace H4 := hide (H4.out.below hbn)
      have Hg8W : V6.heap.size ≤ g8 := by rw [hqg8]; exact HB0.out.size
      rw [← hqg8] at hHZ ⊢
      have HZ := hide hHZ
      clear hqg8 hHZ hbn
      refine hK.out _ _ ?_ (fun hHeld => ?_)
      · exact H2.out
      clear hK K
      try simp only [Act.put, List.setIfInBounds_toArray, List.set_cons_zero, List.set_cons_succ]
      refine wpAnyH_ready (rs := [1]) (by kernel_rfl) (by simp) ?_
      refine AllReadyH.cons rfl (fun K hK => ?_) ?_
      · go_simp
        refine (all_255 _).mono ?_
        rintro e w2 ⟨rfl, hbx⟩
        have hbn : Below w1.heap.size w1 w2 := hbx
        have HB2 : Hid (Below V6.heap.size V6 w2) := hide (HB1.out.trans (hbn.mono HB1.out.size))
        replace H2 := hide (H2.out.below hbn)
        replace H4 := hide (H4.out.below hbn)
        replace HZ := hide (HZ.out.below hbn)
        clear hbn hbx
        go_wp2_with fail
        refine hK.out _ _ ?_ (fun hHeld => ?_)
        · exact H2.out
        clear hK K
        try simp only [Act.put, List.setIfInBounds_toArray, List.set_cons_zero, List.set_cons_succ]
        refine take_as 7 (some 27) (v := ?_) rfl rfl (by kernel_rfl) (by kernel_rfl) (by kernel_rfl) (fun _ _ _ h => h) (Or.inl ⟨by rfl, ?_⟩) (by assumption) ?_
        rotate_left 1
        · intro w2 hSw
          go_simp
          try with_reducible rfl
        try simp only [Act.put, List.setIfInBounds_toArray, List.set_cons_zero, List.set_cons_succ]
        refine wpAnyH_ready (rs := [9]) (by kernel_rfl) (by simp) ?_
        refine AllReadyH.cons rfl (fun K hK => ?_) ?_
        · refine step_store_as rfl rfl 59 (.tmp 8) (.tmp 27) rfl g8 0 (tpL id (.slice none 0 0)).toArray rfl rfl (HZ.out.there 0 _ (by show 0 + 11 ≤ 11; decide)) (by kernel_rfl) (all_oneCell_toArray (tpL_one rfl)) ?_
          refine after_put 0 (tpL id (.slice none 0 0)) _ HZ.out (by show 0 + 11 ≤ 11; decide) rfl (fun w3 hV5 hT5 => ?_)
          have HB3 : Hid (Below V6.heap.size V6 w3) := hide (HB2.out.trans (hT5.below HB2.out.size (fun k hk => by omega)))
          have HV5 := hide hV5
          replace H2 := hide (BoxAt.but H2.out hT5 (by have := Hz.out; omega))
          clear hV5 hT5
          refine hK.out _ _ ?_ (fun hHeld => ?_)
          · exact H2.out
          clear hK K
          try simp only [Act.put, List.setIfInBounds_toArray, List.set_cons_zero, List.set_cons_succ]
          refine wpAnyH_done (by kernel_rfl) ?_ _
          go_wp2_with fail
          go_meet
          exact ⟨g8, rfl, HV5.out, Hg8W, HB3.out⟩
        exact AllReadyH.nil
      exact AllReadyH.nil
    exact AllReadyH.nil
  case rest =>
  obtain ⟨g8, rfl, h8, hg8, hb8⟩ := hcut
  obtain ⟨X, hX⟩ : ∃ V : World, V = wc := ⟨_, rfl⟩
  rw [← hX] at h8 hb8 ⊢
  replace H2 := hide (H2.out.below hb8)
  replace H4 := hide (H4.out.below hb8)
  replace HbW := hide (HbW.out.trans (hb8.mono HbW.out.size))
  have H8 := hide h8
  have Hg8 : Hid (w.heap.size + 2 ≤ g8) := hide (by have := Hz.out; omega)
  have Hg8X : Hid (g8 < X.heap.size) := hide h8.2.2
  clear hX h8 hg8 hb8
  have q4 : X.cell? ⟨w.heap.size, 4, none⟩ = some (.int .i64 3) := H2.out.1 4 _ rfl
  go_upto_block 0 with (fail)
  clear q4
  go_wp2_with fail
  go_loopw [31] (fun i wr => ∃ j : Nat, j ≤ 3 ∧ i = .int .i64 j ∧ TopRel id g8 X (3 * j) wr) (fun i _ => 3 - (intOf i).toNat)
  case atStart => exact ⟨0, by omega, rfl, _, 0, [], H8.out, own_nil _ _ _ _, by omega, But.refl _ _⟩
  case round =>
  obtain ⟨j, hj, rfl, hR⟩ := hrel
  have q4 : wr.cell? ⟨w.heap.size, 4, none⟩ = some (.int .i64 3) := by
    obtain ⟨v, n, xs, h8, -, -, hB⟩ := hR
    exact (BoxAt.but H2.out hB (by have := Hg8.out; omega)).1 4 _ rfl
  by_cases hlt : j < 3
  · go_upto_block 2 with (fail)
    clear q4
    go_wp2_with fail
    have hd : decide ((j : Int) < 3) = true := by simp; omega
    try simp only [hd]
    clear hd
    go_loopw [37] (fun i wr => ∃ k : Nat, k ≤ 3 ∧ i = .int .i64 k ∧ TopRel id g8 X (3 * j + k) wr) (fun i _ => 3 - (intOf i).toNat)
    case atStart => exact ⟨0, by omega, rfl, hR⟩
    case round =>
    obtain ⟨k, hk, rfl, hR⟩ := hrel
    by_cases hlt2 : k < 3
    · by_cases hjk : (j : Int) = k
      · go_wp2_with fail
        go_roundw
        case rel => 
          obtain ⟨v, n, xs, h8, hO, hn, hB⟩ := hR
          exact ⟨k + 1, by omega, by go_num, v, n, xs, h8, hO, by omega, hB⟩
        case measure => simp [intOf]; omega
      · obtain ⟨v, n, xs, h8, hO, hn, hB⟩ := hR
        have q9 := h8.1 9 _ rfl
        have HX8 := hide h8
        have HO := hide hO
        have HT := hide hB
        have Hsz : Hid (X.heap.size ≤ wr.heap.size) := hide hB.size
        have hv1 := own_one hO
        clear h8 hO hB
        go_wp2_with (first
          | ((with_reducible refine wpList_buildSlice_one ?_ ?_ 24 29 3 24 elemPair (.tmp 47) ?_ (.agg ([.int .i64 j, .int .i64 k, .int .i64 0]).toArray) ([.int .i64 j, .int .i64 k, .int .i64 0]) ?_ ?_ ?_ ?_ ?_); (focus rfl); (focus rfl); (focus rfl); (focus rfl); (focus rfl); (focus rfl); (focus decide); intro gb Vb hVb hgVb hbVb; have HGB := hide hVb; replace HX8 := hide (HX8.out.below hbVb); replace HO := hide (own_below HO.out hbVb); replace HT := hide (HT.out.afterBelow hbVb); replace Hsz : Hid (X.heap.size ≤ Vb.heap.size) := hide (by have := Hsz.out; have := hbVb.size; omega); clear hVb hgVb hbVb q9)
          | ((with_reducible refine wpList_append_to ?_ ?_ (.tmp 44) (.tmp 48) 24 29 3 24 elemPair ?_ X.heap.size v n xs ?_ HO.out gb 1 1 [.int .i64 j, .int .i64 k, .int .i64 0] ?_ ?_ ?_ ?_ ?_ ?_ ?_ ?_); (focus rfl); (focus rfl); (focus rfl); (focus rfl); (focus rfl); (focus exact HGB.out); (focus rfl); (focus exact pair_one); (focus omega); (focus omega); (focus exact Hsz.out); intro gn cn Vc hap; have hbn := hap.but.below Hsz.out (fun k hk => (HO.out.lt k hk).1); replace HX8 := hide (BoxAt.but (S := fun k => X.heap.size ≤ k) HX8.out ⟨hbn.os, hbn.tape, hbn.output, hbn.size, fun k _ hs => hbn.block k (by omega)⟩ (by have := Hg8X.out; omega)); replace HT := hide (HT.out.thenNew (T := fun k => X.heap.size ≤ k) ⟨hbn.os, hbn.tape, hbn.output, hbn.size, fun k _ hs => hbn.block k (by omega)⟩ (fun i h => .inr h)); replace HO := hide hap.own; clear hap hbn)
          | ((with_reducible refine wpList_store_cell ?_ ?_ ?_ 24 (.tmp 50) (.tmp 49) ?_ g8 9 (tpL id v) (.slice (some ⟨gn, 0, none⟩) (n + 1) cn) (tpL id (.slice (some ⟨gn, 0, none⟩) (n + 1) cn)) ?_ ?_ ?_ ?_ ?_ ?_ ?_ ?_); (focus rfl); (focus rfl); (focus rfl); (focus rfl); (focus rfl); (focus rfl); (focus exact HX8.out); (focus (show 9 < 11; decide)); (focus rfl); (focus rfl); (focus kernel_rfl); intro Vd hVd hTVd; have HX8 := hide hVd; replace HO := hide (own_but HO.out hTVd (fun k hk e => by have := Hg8X.out; omega)); replace HT := hide (HT.out.trans hTVd); clear hVd hTVd))
        go_roundw
        case rel => exact ⟨k + 1, by omega, by go_num, _, n + 1, _, HX8.out, HO.out, by omega, HT.out⟩
        case measure => simp [intOf]; omega
    · obtain rfl : k = 3 := by omega
      go_wp2_with fail
      go_roundw
      case rel => exact ⟨j + 1, by omega, by go_num, hR⟩
      case measure => simp [intOf]; omega
  · clear q4
    obtain ⟨v, n, xs, h8, hO, hn, hB⟩ := hR
    have hv1 := own_one hO
    have HX8 := hide h8
    replace H4 := hide (BoxAt.but H4.out hB (by have := Hg8.out; omega))
    replace HbW := hide (HbW.out.trans (hB.below HbW.out.size (fun k hk => by have := Hg8.out; omega)))
    clear h8 hO hB
    go_wp2_with (first
      | (have h44 := HV44; clear h44; exact bodyPost_ret (res_box2 (cs := tpL id v) rfl rfl rfl HV44.out Tryz.underlying59 rfl (by kernel_rfl)) rfl ⟨v, hv1, rfl, HbW.out.trans (HTV44.out.below HbW.out.size (fun k hk => by omega))⟩)
      | ((with_reducible refine wpList_load_mid ?_ 59 (.tmp 8) ?_ (g8) (0) ?_ (tpL id v) _ ?_ Tryz.underlying59 ?_ ?_ ?_); (focus rfl); (focus rfl); (focus rfl); (focus exact HX8.out.whole); (focus rfl); (focus kernel_rfl))
      | ((with_reducible refine wpList_store_in ?_ ?_ 59 (.tmp 4) (.tmp 53) ?_ ((w.heap.size + 1)) 0 smZ (tpL id v) (tpL id v) ?_ ?_ ?_ ?_ ?_ ?_ ?_ ?_); (focus rfl); (focus rfl); (focus rfl); (focus rfl); (focus rfl); (focus exact H4.out); (focus (show 0 + 11 ≤ 11; decide)); (focus rfl); (focus kernel_rfl); (focus exact (tpL_one hv1)); intro V44 hV44 hTV44; have HV44 := hide hV44; have HTV44 := hide hTV44; clear hV44 hTV44))

end Go.Proofs.YthhfakkfdohcpaaGreat
