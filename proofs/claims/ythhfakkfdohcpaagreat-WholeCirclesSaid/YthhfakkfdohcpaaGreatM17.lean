/- The join of the set of 0 with itself; no references. No condition. -/
import Derived.Test.YthhfakkfdohcpaaGreatM16
import Derived.Test.YthhfakkfdohcpaaGreatM12
import Derived.Test.YthhfakkfdohcpaaGreatM01
import Derived.Test.YthhfakkfdohcpaaGreatM10
import Derived.Test.YthhfakkfdohcpaaGreatM11
namespace Go.Proofs.YthhfakkfdohcpaaGreat
open Go.RowKit
set_option maxRecDepth 100000 in
set_option maxHeartbeats 2000000 in
theorem gcd_zero (g : Nat) (w : World) (h : BoxAt w g [.int .i64 0, .int .i64 0]) : Calls Tryz.prog 132 #[.int .i64 0, .slice (some ⟨g, 0, none⟩) 2 2] w fun e w' => e = .returned (.int .i64 0) ∧ w = w' := by
  have h0 := h.1 0 _ rfl
  have h1 := h.1 1 _ rfl
  clear h
  go_enter Tryz.func132, Tryz.ntmps132
  go_wp2_with fail
  refine wp_loop_rounds 3 ?_
  rw [rounds_succ]
  go_wp2_with fail
  refine wp_loop_rounds 1 ?_
  rw [rounds_succ]
  go_wp2_with fail
  rw [rounds_succ]
  go_wp2_with fail
  refine wp_loop_rounds 1 ?_
  rw [rounds_succ]
  go_wp2_with fail
  rw [rounds_succ]
  go_wp2_with (go_at_call 134; refine (abs_zero _).mono ?_; rintro e w1 ⟨rfl, rfl⟩)
  go_ret
  exact ⟨rfl, rfl⟩
set_option maxHeartbeats 1000000 in
theorem contains_ref_nil (f : Value) (w : World) : Calls Tryz.prog 102 #[.slice none 0 0, f] w fun e w' => e = .returned (.bool false) ∧ w = w' := by
  go_enter Tryz.func102, Tryz.ntmps102
  go_wp2
  go_rounds 1
  go_ret
  exact ⟨rfl, rfl⟩
set_option maxRecDepth 100000 in
set_option maxHeartbeats 8000000 in
theorem spanjoin_zero (w : World) : Calls Tryz.prog 99 #[.agg abL.toArray, .agg abL.toArray] w fun e w' => e = .returned (.agg abL.toArray) ∧ Below w.heap.size w w' := by
  go_enter Tryz.func99, Tryz.ntmps99
  simp only [abL]
  go_upto_region 1 with (fail)
  obtain ⟨W, hW⟩ : ∃ V, V = ((w.alloc (.cells abL.toArray 57)).alloc (.cells abL.toArray 57)).alloc (.cells abZ.toArray 57) := ⟨_, rfl⟩
  have hb3 := boxes3 w _ _ _ _ _ _ W hW
  have hW' := hW
  simp only [abL, abZ] at hW'
  rw [← hW']
  clear hW hW'
  obtain ⟨b2, b3, b4, hz, hbW⟩ := hb3
  have B2 := hide b2
  have B3 := hide b3
  have B4 := hide b4
  have HbW := hide hbW
  have Hz := hide hz
  clear b2 b3 b4 hbW hz
  refine wp_region_held_drew (S := fun w' => BoxAt w' w.heap.size abL ∧ BoxAt w' (w.heap.size + 1) abL) (by kernel_rfl) ?_ (fun hHeld => ?_)
  · exact ⟨B2.out.below (Below.refl _ _).drew, B3.out.below (Below.refl _ _).drew⟩
  generalize hw0 : World.drew W = w0 at hHeld ⊢
  have HB0 : Hid (Below W.heap.size W w0) := hide (by rw [← hw0]; exact (Below.refl _ W).drew)
  replace B2 := hide (B2.out.below HB0.out)
  replace B3 := hide (B3.out.below HB0.out)
  replace B4 := hide (B4.out.below HB0.out)
  clear hw0
  refine take_as 0 (some 5) (v := ?_) rfl rfl (by kernel_rfl) (by kernel_rfl) (by kernel_rfl) (fun _ _ _ h => h) (Or.inl ⟨by rfl, ?_⟩) (by assumption) ?_
  rotate_left 1
  · intro w2 hSw
    go_simp
    try with_reducible rfl
  try simp only [Act.put, List.setIfInBounds_toArray, List.set_cons_zero, List.set_cons_succ]
  refine take_as 1 (some 6) (v := ?_) rfl rfl (by kernel_rfl) (by kernel_rfl) (by kernel_rfl) (fun _ _ _ h => h) (Or.inl ⟨by rfl, ?_⟩) (by assumption) ?_
  rotate_left 1
  · intro w2 hSw
    have hl := hSw.1.1 0 _ rfl
    go_simp
    try with_reducible rfl
  try simp only [Act.put, List.setIfInBounds_toArray, List.set_cons_zero, List.set_cons_succ]
  refine take_as 2 (some 7) (v := ?_) rfl rfl (by kernel_rfl) (by kernel_rfl) (by kernel_rfl) (fun _ _ _ h => h) (Or.inl ⟨by rfl, ?_⟩) (by assumption) ?_
  rotate_left 1
  · intro w2 hSw
    go_simp
    try with_reducible rfl
  try simp only [Act.put, List.setIfInBounds_toArray, List.set_cons_zero, List.set_cons_succ]
  refine take_as 3 (some 8) (v := ?_) rfl rfl (by kernel_rfl) (by kernel_rfl) (by kernel_rfl) (fun _ _ _ h => h) (Or.inl ⟨by rfl, ?_⟩) (by assumption) ?_
  rotate_left 1
  · intro w2 hSw
    have hl := hSw.2.1 0 _ rfl
    go_simp
    try with_reducible rfl
  try simp only [Act.put, List.setIfInBounds_toArray, List.set_cons_zero, List.set_cons_succ]
  refine take_as 4 (some 9) (v := ?_) rfl rfl (by kernel_rfl) (by kernel_rfl) (by kernel_rfl) (fun _ _ _ h => h) (Or.inl ⟨by rfl, ?_⟩) (by assumption) ?_
  rotate_left 1
  · intro w2 hSw
    go_simp
    try with_reducible rfl
  try simp only [Act.put, List.setIfInBounds_toArray, List.set_cons_zero, List.set_cons_succ]
  refine take_as 5 (some 10) (v := ?_) rfl rfl (by kernel_rfl) (by kernel_rfl) (by kernel_rfl) (fun _ _ _ h => h) (Or.inl ⟨by rfl, ?_⟩) (by assumption) ?_
  rotate_left 1
  · intro w2 hSw
    go_simp
    try with_reducible rfl
  try simp only [Act.put, List.setIfInBounds_toArray, List.set_cons_zero, List.set_cons_succ]
  refine take_as 6 (some 11) (v := ?_) rfl rfl (by kernel_rfl) (by kernel_rfl) (by kernel_rfl) (fun _ _ _ h => h) (Or.inl ⟨by rfl, ?_⟩) (by assumption) ?_
  rotate_left 1
  · intro w2 hSw
    have hl := hSw.1.1 1 _ rfl
    go_simp
    try with_reducible rfl
  try simp only [Act.put, List.setIfInBounds_toArray, List.set_cons_zero, List.set_cons_succ]
  refine take_as 7 (some 12) (v := ?_) rfl rfl (by kernel_rfl) (by kernel_rfl) (by kernel_rfl) (fun _ _ _ h => h) (Or.inl ⟨by rfl, ?_⟩) (by assumption) ?_
  rotate_left 1
  · intro w2 hSw
    go_simp
    try with_reducible rfl
  try simp only [Act.put, List.setIfInBounds_toArray, List.set_cons_zero, List.set_cons_succ]
  refine take_as 8 (some 13) (v := ?_) rfl rfl (by kernel_rfl) (by kernel_rfl) (by kernel_rfl) (fun _ _ _ h => h) (Or.inl ⟨by rfl, ?_⟩) (by assumption) ?_
  rotate_left 1
  · intro w2 hSw
    have hl := hSw.2.1 1 _ rfl
    go_simp
    try with_reducible rfl
  try simp only [Act.put, List.setIfInBounds_toArray, List.set_cons_zero, List.set_cons_succ]
  refine take_as 9 (some 14) (v := ?_) rfl rfl (by kernel_rfl) (by kernel_rfl) (by kernel_rfl) (fun _ _ _ h => h) (Or.inl ⟨by rfl, ?_⟩) (by assumption) ?_
  rotate_left 1
  · intro w2 hSw
    go_simp
    try with_reducible rfl
  try simp only [Act.put, List.setIfInBounds_toArray, List.set_cons_zero, List.set_cons_succ]
  refine take_as 10 (some 15) rfl rfl (by kernel_rfl) (by kernel_rfl) (by kernel_rfl) (fun _ _ _ h => h) (yieldsIf_load_mid (by rfl) 57 (.tmp 2) rfl w.heap.size 0 rfl abL _ (fun w2 hSw => hSw.1.whole) Tryz.underlying57 rfl (by kernel_rfl)) (by assumption) ?_
  try simp only [Act.put, List.setIfInBounds_toArray, List.set_cons_zero, List.set_cons_succ]
  refine take_as 12 (some 17) rfl rfl (by kernel_rfl) (by kernel_rfl) (by kernel_rfl) (fun _ _ _ h => h) (yieldsIf_load_mid (by rfl) 57 (.tmp 3) rfl (w.heap.size + 1) 0 rfl abL _ (fun w2 hSw => hSw.2.whole) Tryz.underlying57 rfl (by kernel_rfl)) (by assumption) ?_
  try simp only [Act.put, List.setIfInBounds_toArray, List.set_cons_zero, List.set_cons_succ]
  refine take_as 14 (some 19) (v := ?_) rfl rfl (by kernel_rfl) (by kernel_rfl) (by kernel_rfl) (fun _ _ _ h => h) (Or.inl ⟨by rfl, ?_⟩) (by assumption) ?_
  rotate_left 1
  · intro w2 hSw
    go_simp
    try with_reducible rfl
  try simp only [Act.put, List.setIfInBounds_toArray, List.set_cons_zero, List.set_cons_succ]
  refine take_as 15 (some 20) (v := ?_) rfl rfl (by kernel_rfl) (by kernel_rfl) (by kernel_rfl) (fun _ _ _ h => h) (Or.inl ⟨by rfl, ?_⟩) (by assumption) ?_
  rotate_left 1
  · intro w2 hSw
    have hl := hSw.1.1 0 _ rfl
    go_simp
    try with_reducible rfl
  try simp only [Act.put, List.setIfInBounds_toArray, List.set_cons_zero, List.set_cons_succ]
  refine take_as 16 (some 21) (v := ?_) rfl rfl (by kernel_rfl) (by kernel_rfl) (by kernel_rfl) (fun _ _ _ h => h) (Or.inl ⟨by rfl, ?_⟩) (by assumption) ?_
  rotate_left 1
  · intro w2 hSw
    go_simp
    try with_reducible rfl
  try simp only [Act.put, List.setIfInBounds_toArray, List.set_cons_zero, List.set_cons_succ]
  refine take_as 17 (some 22) (v := ?_) rfl rfl (by kernel_rfl) (by kernel_rfl) (by kernel_rfl) (fun _ _ _ h => h) (Or.inl ⟨by rfl, ?_⟩) (by assumption) ?_
  rotate_left 1
  · intro w2 hSw
    have hl := hSw.2.1 0 _ rfl
    go_simp
    try with_reducible rfl
  try simp only [Act.put, List.setIfInBounds_toArray, List.set_cons_zero, List.set_cons_succ]
  refine take_as 18 (some 23) (v := ?_) rfl rfl (by kernel_rfl) (by kernel_rfl) (by kernel_rfl) (fun _ _ _ h => h) (Or.inl ⟨by rfl, ?_⟩) (by assumption) ?_
  rotate_left 1
  · intro w2 hSw
    go_simp
    try with_reducible rfl
  try simp only [Act.put, List.setIfInBounds_toArray, List.set_cons_zero, List.set_cons_succ]
  refine take_as 22 (some 27) (v := ?_) rfl rfl (by kernel_rfl) (by kernel_rfl) (by kernel_rfl) (fun _ _ _ h => h) (Or.inl ⟨by rfl, ?_⟩) (by assumption) ?_
  rotate_left 1
  · intro w2 hSw
    go_simp
    try with_reducible rfl
  try simp only [Act.put, List.setIfInBounds_toArray, List.set_cons_zero, List.set_cons_succ]
  refine take_as 23 (some 28) (v := ?_) rfl rfl (by kernel_rfl) (by kernel_rfl) (by kernel_rfl) (fun _ _ _ h => h) (Or.inl ⟨by rfl, ?_⟩) (by assumption) ?_
  rotate_left 1
  · intro w2 hSw
    have hl := hSw.1.1 4 _ rfl
    go_simp
    try with_reducible rfl
  try simp only [Act.put, List.setIfInBounds_toArray, List.set_cons_zero, List.set_cons_succ]
  refine take_as 24 (some 29) (v := ?_) rfl rfl (by kernel_rfl) (by kernel_rfl) (by kernel_rfl) (fun _ _ _ h => h) (Or.inl ⟨by rfl, ?_⟩) (by assumption) ?_
  rotate_left 1
  · intro w2 hSw
    go_simp
    try with_reducible rfl
  try simp only [Act.put, List.setIfInBounds_toArray, List.set_cons_zero, List.set_cons_succ]
  refine take_as 25 (some 30) (v := ?_) rfl rfl (by kernel_rfl) (by kernel_rfl) (by kernel_rfl) (fun _ _ _ h => h) (Or.inl ⟨by rfl, ?_⟩) (by assumption) ?_
  rotate_left 1
  · intro w2 hSw
    have hl := hSw.2.1 4 _ rfl
    go_simp
    try with_reducible rfl
  try simp only [Act.put, List.setIfInBounds_toArray, List.set_cons_zero, List.set_cons_succ]
  refine take_as 26 (some 31) (v := ?_) rfl rfl (by kernel_rfl) (by kernel_rfl) (by kernel_rfl) (fun _ _ _ h => h) (Or.inl ⟨by rfl, ?_⟩) (by assumption) ?_
  rotate_left 1
  · intro w2 hSw
    go_simp
    try with_reducible rfl
  try simp only [Act.put, List.setIfInBounds_toArray, List.set_cons_zero, List.set_cons_succ]
  refine wpAnyH_ready (rs := [11]) (by kernel_rfl) (by simp) ?_
  refine AllReadyH.cons rfl (fun K hK => ?_) ?_
  · go_simp
    refine (step_one 0 1 _).mono ?_
    rintro e w1 ⟨rfl, hbx⟩
    have hbn : Below w0.heap.size w0 w1 := hbx
    have HB1 : Hid (Below W.heap.size W w1) := hide (HB0.out.trans (hbn.mono HB0.out.size))
    replace B2 := hide (B2.out.below hbn)
    replace B3 := hide (B3.out.below hbn)
    replace B4 := hide (B4.out.below hbn)
    clear hbn hbx
    go_wp2_with fail
    refine hK.out _ _ ?_ (fun hHeld => ?_)
    · exact ⟨B2.out, B3.out⟩
    clear hK K
    try simp only [Act.put, List.setIfInBounds_toArray, List.set_cons_zero, List.set_cons_succ]
    refine wpAnyH_ready (rs := [13]) (by kernel_rfl) (by simp) ?_
    refine AllReadyH.cons rfl (fun K hK => ?_) ?_
    · go_simp
      refine (step_one 0 1 _).mono ?_
      rintro e w2 ⟨rfl, hbx⟩
      have hbn : Below w1.heap.size w1 w2 := hbx
      have HB2 : Hid (Below W.heap.size W w2) := hide (HB1.out.trans (hbn.mono HB1.out.size))
      replace B2 := hide (B2.out.below hbn)
      replace B3 := hide (B3.out.below hbn)
      replace B4 := hide (B4.out.below hbn)
      clear hbn hbx
      go_wp2_with fail
      refine hK.out _ _ ?_ (fun hHeld => ?_)
      · exact ⟨B2.out, B3.out⟩
      clear hK K
      try simp only [Act.put, List.setIfInBounds_toArray, List.set_cons_zero, List.set_cons_succ]
      refine wpAnyH_ready (rs := [19]) (by kernel_rfl) (by simp) ?_
      refine AllReadyH.cons rfl (fun K hK => ?_) ?_
      · go_simp
        refine (abs_zero _).mono ?_
        rintro e w3 ⟨rfl, hwx⟩
        have HB3 : Hid (Below W.heap.size W w3) := hide (by rw [← hwx]; exact HB2.out)
        replace B2 := hide (hwx ▸ B2.out)
        replace B3 := hide (hwx ▸ B3.out)
        replace B4 := hide (hwx ▸ B4.out)
        clear hwx
        go_wp2_with fail
        refine hK.out _ _ ?_ (fun hHeld => ?_)
        · exact ⟨B2.out, B3.out⟩
        clear hK K
        try simp only [Act.put, List.setIfInBounds_toArray, List.set_cons_zero, List.set_cons_succ]
        refine wpAnyH_ready (rs := [20]) (by kernel_rfl) (by simp) ?_
        refine AllReadyH.cons rfl (fun K hK => ?_) ?_
        · go_simp
          refine name_world (fun w4 hwn => ?_)
          have hbn : Below w3.heap.size w3 w4 := by rw [hwn]; exact (Below.refl _ _).alloc (Nat.le_refl _) _
          have hG : BoxAt w4 w3.heap.size [.int .i64 0, .int .i64 0] := by rw [hwn]; exact BoxAt.new _ _ _
          have HG := hide hG
          have HB4 : Hid (Below W.heap.size W w4) := hide (HB3.out.trans (hbn.mono HB3.out.size))
          replace B2 := hide (B2.out.below hbn)
          replace B3 := hide (B3.out.below hbn)
          replace B4 := hide (B4.out.below hbn)
          clear hwn hG hbn
          refine hK.out _ _ ?_ (fun hHeld => ?_)
          · exact ⟨B2.out, B3.out⟩
          clear hK K
          try simp only [Act.put, List.setIfInBounds_toArray, List.set_cons_zero, List.set_cons_succ]
          refine wpAnyH_ready (rs := [21]) (by kernel_rfl) (by simp) ?_
          refine AllReadyH.cons rfl (fun K hK => ?_) ?_
          · go_simp
            refine (gcd_zero _ _ HG.out).mono ?_
            rintro e w5 ⟨rfl, hwx⟩
            have HB5 : Hid (Below W.heap.size W w5) := hide (by rw [← hwx]; exact HB4.out)
            replace B2 := hide (hwx ▸ B2.out)
            replace B3 := hide (hwx ▸ B3.out)
            replace B4 := hide (hwx ▸ B4.out)
            replace HG := hide (hwx ▸ HG.out)
            clear hwx
            go_wp2_with fail
            refine hK.out _ _ ?_ (fun hHeld => ?_)
            · exact ⟨B2.out, B3.out⟩
            clear hK K
            try simp only [Act.put, List.setIfInBounds_toArray, List.set_cons_zero, List.set_cons_succ]
            refine wpAnyH_ready (rs := [27]) (by kernel_rfl) (by simp) ?_
            refine AllReadyH.cons rfl (fun K hK => ?_) ?_
            · go_simp
              refine (by_zero _ rfl _).mono ?_
              rintro e w6 ⟨rfl, hbx⟩
              have hbn : Below w5.heap.size w5 w6 := hbx
              have HB6 : Hid (Below W.heap.size W w6) := hide (HB5.out.trans (hbn.mono HB5.out.size))
              replace B2 := hide (B2.out.below hbn)
              replace B3 := hide (B3.out.below hbn)
              replace B4 := hide (B4.out.below hbn)
              replace HG := hide (HG.out.below hbn)
              clear hbn hbx
              go_wp2_with fail
              refine hK.out _ _ ?_ (fun hHeld => ?_)
              · exact ⟨B2.out, B3.out⟩
              clear hK K
              try simp only [Act.put, List.setIfInBounds_toArray, List.set_cons_zero, List.set_cons_succ]
              refine wpAnyH_ready (rs := [28]) (by kernel_rfl) (by simp) ?_
              refine AllReadyH.cons rfl (fun K hK => ?_) ?_
              · refine step_store_as rfl rfl 57 (.tmp 4) (.tmp 32) rfl (w.heap.size + 1 + 1) 0 abL.toArray rfl rfl (B4.out.there 0 _ (by show 0 + 5 ≤ 5; decide)) (by kernel_rfl) (all_oneCell_toArray abL_one) ?_
                refine after_put 0 abL _ B4.out (by show 0 + 5 ≤ 5; decide) rfl (fun w7 hV5 hT5 => ?_)
                have HV5 := hide hV5
                have HT5 := hide hT5
                clear hV5 hT5
                refine hK.out _ _ ?_ (fun hHeld => ?_)
                · exact ⟨B2.out.but HT5.out (by omega), B3.out.but HT5.out (by omega)⟩
                clear hK K
                try simp only [Act.put, List.setIfInBounds_toArray, List.set_cons_zero, List.set_cons_succ]
                refine wpAnyH_done (by kernel_rfl) ?_ _
                go_wp2_with fail
                have hs := HB6.out.size
                exact bodyPost_ret (res_box (cs := abL) rfl rfl HV5.out Tryz.underlying57 rfl (by kernel_rfl)) rfl ⟨rfl, HbW.out.trans ((HB6.out.mono HbW.out.size).trans (HT5.out.below (by have := HbW.out.size; omega) (fun k hk => by omega)))⟩
              exact AllReadyH.nil
            exact AllReadyH.nil
          exact AllReadyH.nil
        exact AllReadyH.nil
      exact AllReadyH.nil
    exact AllReadyH.nil
  exact AllReadyH.nil
end Go.Proofs.YthhfakkfdohcpaaGreat
/- Small steps of a proof: look-ups that hit, notes at the end, a list of one pair. No condition. -/
namespace Go.Proofs.YthhfakkfdohcpaaGreat
open Go.RowKit Go.ChangeMaps Go.MapKept
theorem findNow_int_hit (q : IntKind) (k : Int) : ∀ (es : List MapEntry) (i j : Nat) (v : Value), (∀ i', i' < j → ∃ a, (es[i']?).map (·.key) = some (.int .i64 a) ∧ a ≠ k) → (es[j]?).map (·.key) = some (.int .i64 k) → (es[j]?).map (·.val) = some v →
    Instr.findNow (.int q) (.int .i64 k) es i = some (some (i + j, v))
  | [], _, j, _, _, h, _ => by simp at h
  | e :: es, i, 0, v, _, hk, hv => by
    simp only [List.getElem?_cons_zero, Option.map_some, Option.some.injEq] at hk hv
    simp [Instr.findNow, hk, hv, Instr.sameNow]
  | e :: es, i, j + 1, v, hp, hk, hv => by
    obtain ⟨a, ha, hne⟩ := hp 0 (by omega)
    simp only [List.getElem?_cons_zero, Option.map_some, Option.some.injEq] at ha
    have hb : (k == a) = false := by simpa using fun x => hne x.symm
    simp only [Instr.findNow, ha, Instr.sameNow, if_pos, hb]
    rw [findNow_int_hit q k es (i + 1) j v (fun i' hi' => by have := hp (i' + 1) (by omega); simpa using this) (by simpa using hk) (by simpa using hv)]
    congr 3
    omega
/-- A key that is there. -/
def HasKey (K : TypeId) (k : Value) (l : List (Value × Value)) (j : Nat) (v : Value) : Prop := ∀ w, (Instr.findKey K k (entL l)).run Tryz.prog w = .ok (some (j, v)) w
theorem hasKey_ints (k : Int) (l : List (Value × Value)) (ks : List Int) (h : l.map (·.1) = ks.map (Value.int .i64)) (j : Nat) (v : Value) (hj : ks[j]? = some k) (hf : ∀ i, i < j → ks[i]? ≠ some k) (hv : (l[j]?).map (·.2) = some v) : HasKey 3 (.int .i64 k) l j v := fun w => by
  have hkey : ∀ i : Nat, ((entL l)[i]?).map MapEntry.key = (ks[i]?).map (Value.int .i64) := fun i => by
    have : (l.map (·.1))[i]? = (ks.map (Value.int .i64))[i]? := by rw [h]
    simp only [List.getElem?_map] at this
    rw [← this]
    cases hl : l[i]? with
    | none => simp [entL, List.getElem?_zipIdx, hl]
    | some p => obtain ⟨a, b⟩ := p; rw [entL_get hl]; rfl
  have hlen : l.length = ks.length := by have := congrArg List.length h; simpa using this
  have := findNow_int_hit .i64 k (entL l) 0 j v (fun i' hi' => by
    have hlt : i' < ks.length := by have := (List.getElem?_eq_some_iff.1 hj).1; omega
    refine ⟨ks[i'], by rw [hkey, List.getElem?_eq_getElem hlt]; rfl, fun e => hf i' hi' (by rw [List.getElem?_eq_getElem hlt, e])⟩) (by rw [hkey, hj]; rfl) (by
    cases hl : l[j]? with
    | none => rw [hl] at hv; simp at hv
    | some p => obtain ⟨a, b⟩ := p; rw [entL_get hl]; rw [hl] at hv; simpa using hv)
  simp [Instr.findKey, Sem.run_bind, run_underlying Tryz.underlying3 w, Result.andThen, this]
theorem run_lookup_hit {T K E : TypeId} {W : World} {m : Nat} {l : List (Value × Value)} {k v : Value} {j : Nat} (ht : Tryz.prog.underlying T = some (.map K E)) (h : MapAt W m l)
    (hck : ∀ w, (Instr.checkKey (entL l).toArray.isEmpty 10000 K k).run Tryz.prog w = .ok () w) (hn : HasKey K k l j v) (c : Bool) :
    (Instr.lookup T (.map (some m)) k c).run Tryz.prog W = .ok (if c then .tuple #[v, .bool true] else v) W := by
  have hg : (getObj m).run Tryz.prog W = .ok (.map (entL l).toArray l.length) W := MapKept.run_getObj_map h
  have hf := hn W
  simp only [Instr.lookup, Sem.run_bind, run_underlying ht W, Result.andThen, hg, Sem.run_pure, hck W, hf]
theorem check_int_any (e : Bool) (k : Int) : ∀ w, (Instr.checkKey e 10000 3 (.int .i64 k)).run Tryz.prog w = .ok () w := fun w => by cases e <;> kernel_rfl
set_option maxHeartbeats 1000000 in
theorem atend_false (p : Value) (k : Int) (w : World) : Calls Tryz.prog 101 #[p, .bool false, .int .i64 k] w fun e w' => e = .returned (.tuple #[]) ∧ w = w' := by
  go_enter Tryz.func101, Tryz.ntmps101
  go_wp2
  go_end0
  exact ⟨rfl, rfl⟩
set_option maxRecDepth 100000 in
set_option maxHeartbeats 1000000 in
theorem compact_pair_small (A : Option Addr) (n c : Nat) (hn : n ≤ 1) (w : World) : Calls Tryz.prog 18 #[.slice A n c] w fun e w' => e = .returned (.slice A n c) ∧ w = w' := by
  have h1 : (n : Int) < 2 := by omega
  go_enter Tryz.func18, Tryz.ntmps18
  go_wp2
  go_ret
  exact ⟨rfl, rfl⟩
end Go.Proofs.YthhfakkfdohcpaaGreat
/- A store of one cell into a box. No condition. -/
namespace Go.Proofs.YthhfakkfdohcpaaGreat
open Go.RowKit
theorem run_storeVar_cell (w : World) (g off : Nat) (ty : TypeId) (vs : List Value) (v : Value) (B : BoxAt w g vs) (hlt : off < vs.length) (hv : v.oneCell' = true) (hi : (Tryz.prog.info? ty).map (·.size) = some 1) :
    (storeVar ty ⟨g, off, none⟩ v).run Tryz.prog w = .ok () (w.setCell ⟨g, off, none⟩ v) := by
  have hcell := B.1 off _ (List.getElem?_eq_getElem hlt)
  have hfr := B.2.1 off
  have hc : v.cells = #[v] := by cases v <;> first | rfl | (simp [Value.oneCell'] at hv)
  cases hq : Tryz.prog.info? ty with
  | none => simp [hq] at hi
  | some i =>
    have hs : i.size = 1 := by simpa [hq] using hi
    have hst : (storeCells ⟨g, off, none⟩ [v]).run Tryz.prog w = .ok () (w.setCell ⟨g, off, none⟩ v) := by
      have e : (⟨g, off, none⟩ : Addr).add 0 = ⟨g, off, none⟩ := rfl
      cases v <;> first
        | (simp [Value.oneCell'] at hv; done)
        | simp [storeCells, store, Sem.run, e, hcell, hfr]
    simp [storeVar, sizeOf, typeInfo, program, Sem.run_bind, Sem.run, Result.andThen, hq, hs, hc, hst]
theorem wpList_store_cell {P0 : Program} (hP : P0 = Tryz.prog) {ops : Array Oper} {rest : List Oper} {o : Oper} {a : Act} {w : World} {Q : Exit → Act → World → Prop} (hg : o.guard = none) (hd : o.dst = none) (ty : TypeId) (x y : Operand) (ho : o.op = .store ty x y)
    (g off : Nat) (vs : List Value) (v : Value) (vs' : List Value) (hx : a.eval x = .pointer (some ⟨g, off, none⟩)) (hy : a.eval y = v) (B : BoxAt w g vs) (hlt : off < vs.length) (e : vs' = vs.set off v) (hv : v.oneCell' = true) (hi : (Tryz.prog.info? ty).map (·.size) = some 1)
    (h : ∀ V, BoxAt V g vs' → But (fun k => k = g) w V → wpList P0 ops Q rest a V) : wpList P0 ops Q (o :: rest) a w := by
  subst hP
  refine wpList_plain hg fun K' hK' => ?_
  have hrun := run_storeVar_cell w g off ty vs v B hlt hv hi
  unfold Oper.wp
  simp only [execOp, ho, hx, hy, Instr.storeAt, Instr.sureAddr, Sem.run_bind, Sem.run_pure, Result.andThen_ok, hrun]
  show K' (a.put o.dst undef) _
  rw [hd]
  exact hK' _ _ (h _ (e ▸ B.set off hlt v) (But.setCell (S := fun k => k = g) (But.refl _ _) (p := ⟨g, off, none⟩) rfl v))
theorem step_store_cell {ops : Array Oper} {o : Oper} {a : Act} {w : World} {K : Act → World → Prop} {Q : Exit → Act → World → Prop} {E : Prop} (hd : o.dst = none) (hg : o.guard = none) (ty : TypeId) (x y : Operand) (ho : o.op = .store ty x y)
    (g off : Nat) (vs : List Value) (v : Value) (vs' : List Value) (hx : a.eval x = .pointer (some ⟨g, off, none⟩)) (hy : a.eval y = v) (B : BoxAt w g vs) (hlt : off < vs.length) (e : vs' = vs.set off v) (hv : v.oneCell' = true) (hi : (Tryz.prog.info? ty).map (·.size) = some 1)
    (h : ∀ V, BoxAt V g vs' → But (fun k => k = g) w V → K a V) : if Region.wanted o (yielded ops a.tmps) = true then Oper.wp Tryz.prog o a w K Q else E := by
  have hw : Region.wanted o (yielded ops a.tmps) = true := by simp [Region.wanted, hg]
  rw [if_pos hw]
  have hrun := run_storeVar_cell w g off ty vs v B hlt hv hi
  unfold Oper.wp
  simp only [execOp, ho, hx, hy, Instr.storeAt, Instr.sureAddr, Sem.run_bind, Sem.run_pure, Result.andThen_ok, hrun]
  show K (a.put o.dst undef) _
  rw [hd]
  exact h _ (e ▸ B.set off hlt v) (But.setCell (S := fun k => k = g) (But.refl _ _) (p := ⟨g, off, none⟩) rfl v)
end Go.Proofs.YthhfakkfdohcpaaGreat
/- A look-up that hits, as a step; a row of one's own under changes elsewhere. No condition. -/
namespace Go.Proofs.YthhfakkfdohcpaaGreat
open Go.RowKit Go.ChangeMaps Go.MapKept
theorem step_lookup_hit {ops : Array Oper} {o : Oper} {a : Act} {w : World} {K : Act → World → Prop} {Q : Exit → Act → World → Prop} {E : Prop} (d : Option Tmp) (hd : o.dst = d) (hg : o.guard = none) {T Kt Et : TypeId} (x y : Operand) (c : Bool) (ho : o.op = .lookup T x y c)
    (m : Nat) (k v : Value) (j : Nat) (l : List (Value × Value)) (hx : a.eval x = .map (some m)) (hy : a.eval y = k) (ht : Tryz.prog.underlying T = some (.map Kt Et)) (h : MapAt w m l)
    (hck : ∀ w, (Instr.checkKey (entL l).toArray.isEmpty 10000 Kt k).run Tryz.prog w = .ok () w) (hn : HasKey Kt k l j v)
    (hK : K (a.put d (if c then .tuple #[v, .bool true] else v)) w) : if Region.wanted o (yielded ops a.tmps) = true then Oper.wp Tryz.prog o a w K Q else E := by
  subst hd
  have hw : Region.wanted o (yielded ops a.tmps) = true := by simp [Region.wanted, hg]
  rw [if_pos hw]
  have hrun := run_lookup_hit ht h hck hn c
  unfold Oper.wp
  simp [execOp, ho, hx, hy, hrun, Result.andThen]
  exact hK
theorem wpList_lookup_hit {P0 : Program} (hP : P0 = Tryz.prog) {ops : Array Oper} {rest : List Oper} {o : Oper} {a : Act} {w : World} {Q : Exit → Act → World → Prop} (hg : o.guard = none) {T Kt Et : TypeId} (x y : Operand) (c : Bool) (ho : o.op = .lookup T x y c)
    (m : Nat) (k v : Value) (j : Nat) (l : List (Value × Value)) (hx : a.eval x = .map (some m)) (hy : a.eval y = k) (ht : Tryz.prog.underlying T = some (.map Kt Et)) (h : MapAt w m l)
    (hck : ∀ w, (Instr.checkKey (entL l).toArray.isEmpty 10000 Kt k).run Tryz.prog w = .ok () w) (hn : HasKey Kt k l j v)
    (hK : wpList P0 ops Q rest (a.put o.dst (if c then .tuple #[v, .bool true] else v)) w) : wpList P0 ops Q (o :: rest) a w := by
  subst hP
  refine wpList_plain hg fun K' hK' => ?_
  have hrun := run_lookup_hit ht h hck hn c
  unfold Oper.wp
  simp [execOp, ho, hx, hy, hrun, Result.andThen]
  exact hK' _ _ hK
theorem own_but {w w' : World} {B size n : Nat} {e : TypeId} {v : Value} {xs : List Value} {S : Nat → Prop} (h : w.ownsRow B e size v n xs) (hb : But S w w') (hS : ∀ k, B ≤ k → ¬ S k) : w'.ownsRow B e size v n xs := by
  obtain ⟨hl, h0 | ⟨g, cap, cur, hv, hg, hh, hr⟩⟩ := h
  · exact ⟨hl, .inl h0⟩
  · exact ⟨hl, .inr ⟨g, cap, cur, hv, hg, by rw [hb.block g (Array.getElem?_eq_some_iff.1 hh).1 (hS g hg)]; exact hh, hr⟩⟩
theorem own_below {w w' : World} {B size n : Nat} {e : TypeId} {v : Value} {xs : List Value} (h : w.ownsRow B e size v n xs) (hb : Below w.heap.size w w') : w'.ownsRow B e size v n xs := own_but h (Below.but hb fun _ => False) fun _ _ h => h
theorem own_drew {w : World} {B size n : Nat} {e : TypeId} {v : Value} {xs : List Value} (h : w.ownsRow B e size v n xs) : w.drew.ownsRow B e size v n xs := h
/-- A notice of facts: at these sites, each a fact of no variables. -/
theorem facts_hit {A2 : Option Addr} {c2 : Nat} {pa : Int} {lx : List (Value × Value)} {ss : List St} (h : FactsOk A2 c2 pa lx (ss.map (·.1))) (hnd : ∀ j s, ss[j]? = some s → s.1 ∉ (ss.take j).map (·.1)) {j : Nat} (hj : j < ss.length) :
    ∃ A c u, HasKey 3 (.int .i64 ss[j].1) lx j (.agg (fcL (.slice A 0 c) (.slice A2 0 c2) u u pa).toArray) := by
  have hlen : lx.length = ss.length := by have := congrArg List.length h.1; simpa using this
  obtain ⟨A, c, u, -, hq⟩ := h.2 (lx[j]'(by omega)) (List.getElem_mem _)
  refine ⟨A, c, u, hasKey_ints _ lx (ss.map fun s : St => s.1) h.1 j _ (by simp [hj]) (fun i hi e => ?_) (by rw [List.getElem?_eq_getElem (by omega)]; simp [hq])⟩
  refine hnd j ss[j] (List.getElem?_eq_getElem hj) ?_
  have hi' : i < ss.length := by omega
  rw [List.getElem?_map, List.getElem?_eq_getElem hi'] at e
  simp only [Option.map_some, Option.some.injEq] at e
  rw [← e]
  refine List.mem_map_of_mem ?_
  rw [List.mem_take_iff_getElem]
  exact ⟨i, by omega, rfl⟩
theorem facts_len {lx : List (Value × Value)} {ss : List St} (h : KeysOf lx (ss.map (·.1))) : lx.length = ss.length := by have := congrArg List.length h; simpa using this
end Go.Proofs.YthhfakkfdohcpaaGreat
/- Finding a summary where there is none. No condition. -/
namespace Go.Proofs.YthhfakkfdohcpaaGreat
open Go.RowKit
def smZ : List Value := [.int .i64 0, .int .i64 0, .int .i64 0, .int .i64 0, .int .i64 0, .int .i64 0, .int .i64 0, .int .i64 0, .int .i64 0, .slice none 0 0, .int .i64 0]
set_option maxHeartbeats 400000 in
theorem index_sum_nil (f : Value) (w : World) : Calls Tryz.prog 92 #[.slice none 0 0, f] w fun e w' => e = .returned (.int .i64 (-1)) ∧ w = w' := by
  go_enter Tryz.func92, Tryz.ntmps92
  go_wp2
  go_rounds 1
  go_ret
  exact ⟨rfl, rfl⟩
set_option maxRecDepth 100000 in
set_option maxHeartbeats 4000000 in
theorem sumfind_nil (id : Int) (w : World) : Calls Tryz.prog 73 #[.slice none 0 0, .int .i64 id] w fun e w' => e = .returned (.tuple #[.agg smZ.toArray, .bool false]) ∧ Below w.heap.size w w' := by
  have hmf : ∀ (fn : Fn) (first cap : Array Value) (w : World), (Instr.makeFunc fn first cap).run Tryz.prog w = .ok (.func fn first cap) w := fun _ _ _ _ => rfl
  go_enter Tryz.func73, Tryz.ntmps73
  go_upto_region 1 with (fail)
  obtain ⟨W, hW⟩ : ∃ V, V = (w.alloc (.cells [.int .i64 id].toArray 3)).alloc (.cells smZ.toArray 59) := ⟨_, rfl⟩
  have hb2 := boxes2 w _ _ _ _ W hW
  have hW' := hW
  simp only [smZ] at hW'
  rw [← hW']
  clear hW hW'
  obtain ⟨b2, b4, hz, hbW⟩ := hb2
  have B4 := hide b4
  have HbW := hide hbW
  have Hz := hide hz
  clear b2 b4 hbW hz
  go_wp2_with (first
    | (go_at_call 92; refine (index_sum_nil _ _).mono ?_; rintro e w1 ⟨rfl, rfl⟩)
    | ((with_reducible refine wpList_store_in ?_ ?_ 59 (.tmp 4) (.tmp 12) ?_ (w.heap.size + 1) 0 smZ smZ smZ ?_ ?_ ?_ ?_ ?_ ?_ ?_ ?_); (focus rfl); (focus rfl); (focus rfl); (focus rfl); (focus rfl); (focus exact B4.out); (focus (show 0 + 11 ≤ 11; decide)); (focus rfl); (focus kernel_rfl); (focus (intro u hu; revert u; simp [smZ, Value.oneCell'])); intro V8 hV8 hT8; have HV8 := hide hV8; have HT8 := hide hT8; clear hV8 hT8))
  exact bodyPost_ret (res_box2 (cs := smZ) rfl rfl rfl HV8.out Tryz.underlying59 rfl (by kernel_rfl)) rfl ⟨rfl, HbW.out.trans (HT8.out.below (by have := Hz.out; omega) (fun k hk => by omega))⟩
end Go.Proofs.YthhfakkfdohcpaaGreat
