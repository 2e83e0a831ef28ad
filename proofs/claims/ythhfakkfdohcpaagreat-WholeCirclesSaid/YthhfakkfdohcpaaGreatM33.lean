/- whole.Covers at the findings of the examples. No condition. -/
import Derived.Test.YthhfakkfdohcpaaGreatM26
import Derived.Test.YthhfakkfdohcpaaGreatShelf
import Derived.Test.YthhfakkfdohcpaaGreatM20
import Derived.Test.YthhfakkfdohcpaaGreatM32
namespace Go.Proofs.YthhfakkfdohcpaaGreat
open Go.RowKit Go.ChangeMaps Go.MapKept
theorem has21 (x : Int) (g c : Nat) (w : World) (h : BoxAt w g [.int .i64 21]) : Calls Tryz.prog 26 #[.slice (some ⟨g, 0, none⟩) 1 c, .int .i64 x] w fun e w' => e = .returned (.bool (decide (x = 21))) ∧ w' = w := by
  have := Tryz.slices_Contains_int g 0 1 c [21] x w (by simp) (by omega) (fun j hj => by
    have : j = 0 := by simpa using hj
    subst this
    exact h.1 0 _ rfl)
  refine this.mono ?_
  rintro e w' ⟨rfl, rfl⟩
  refine ⟨?_, rfl⟩
  by_cases e : x = 21 <;> simp [e]
set_option maxRecDepth 100000 in
set_option maxHeartbeats 4000000 in
theorem cov_cl (i s k : Int) (hs : s = 11 ∨ s = 21) (hk : k = 14 ∨ k = 3) (fb cb g c : Nat) (w : World) (hf : BoxAt w fb [.int .i64 5, .int .i64 k]) (hc : BoxAt w cb [.slice (some ⟨g, 0, none⟩) 1 c]) (hg : BoxAt w g [.int .i64 21]) :
    Calls Tryz.prog 25 #[.agg (prV (i, s, 14)).toArray, .pointer (some ⟨fb, 0, none⟩), .pointer (some ⟨cb, 0, none⟩)] w fun e w' => e = .returned (.bool (decide (s = 21 ∧ k = 14))) ∧ Below w.heap.size w w' := by
  have hal : Below w.heap.size w (w.alloc (.cells (prV (i, s, 14)).toArray 54)) := (Below.refl _ w).alloc (Nat.le_refl _) _
  have b3 := BoxAt.new w (prV (i, s, 14)) 54
  have HF := hide (hf.below hal)
  have HC := hide (hc.below hal)
  have HG := hide (hg.below hal)
  have H3 := hide b3
  have HA := hide hal
  clear hf hc hg b3
  go_enter Tryz.func25, Tryz.ntmps25
  simp only [prV]
  go_upto_region 1 with (fail)
  obtain ⟨W, hW⟩ : ∃ V, V = w.alloc (.cells (prV (i, s, 14)).toArray 54) := ⟨_, rfl⟩
  rw [← hW] at HF HC HG H3 HA
  simp only [prV] at hW
  rw [← hW]
  clear hW hal
  have c0 : W.cell? ⟨fb, 0, none⟩ = some (.int .i64 5) := HF.out.1 0 _ rfl
  have c1 : W.cell? ⟨fb, 1, none⟩ = some (.int .i64 k) := HF.out.1 1 _ rfl
  have c2 : W.cell? ⟨cb, 0, none⟩ = some (.slice (some ⟨g, 0, none⟩) 1 c) := HC.out.1 0 _ rfl
  have c3 : W.cell? ⟨w.heap.size, 1, none⟩ = some (.int .i64 s) := H3.out.1 1 _ rfl
  have c4 : W.cell? ⟨w.heap.size, 2, none⟩ = some (.int .i64 14) := H3.out.1 2 _ rfl
  rcases hk with rfl | rfl <;> rcases hs with rfl | rfl
  · go_wp2_with (go_at_call 26; refine (has21 11 g c _ HG.out).mono ?_; rintro e w1 ⟨rfl, rfl⟩)
    go_ret
    exact ⟨rfl, HA.out⟩
  · go_wp2_with (go_at_call 26; refine (has21 21 g c _ HG.out).mono ?_; rintro e w1 ⟨rfl, rfl⟩)
    go_ret
    exact ⟨rfl, HA.out⟩
  · go_wp2_with fail
    go_ret
    exact ⟨rfl, HA.out⟩
  · go_wp2_with fail
    go_ret
    exact ⟨rfl, HA.out⟩
set_option maxRecDepth 100000 in
set_option maxHeartbeats 8000000 in
theorem cov_any (k : Int) (hk : k = 14 ∨ k = 3) (pv : Value) (_h1 : pv.oneCell' = true) (fg fc cc g : Nat) (w : World) (hff : BoxAt w fg (prV (1, 11, 14) ++ prV (2, 21, 14))) (hg : BoxAt w g [.int .i64 21]) :
    Calls Tryz.prog 10 #[.agg #[pv, .slice (some ⟨fg, 0, none⟩) 2 fc], .agg #[.int .i64 5, .int .i64 k], .slice (some ⟨g, 0, none⟩) 1 cc] w fun e w' => e = .returned (.bool (decide (k = 14))) ∧ Below w.heap.size w w' := by
  have HFF := hide hff
  have HG := hide hg
  clear hff hg
  have hix : ∀ (W : World) (fb cb : Nat), BoxAt W fg (prV (1, 11, 14) ++ prV (2, 21, 14)) → BoxAt W g [.int .i64 21] → BoxAt W fb [.int .i64 5, .int .i64 k] → BoxAt W cb [.slice (some ⟨g, 0, none⟩) 1 cc] →
      Calls Tryz.prog 43 #[.slice (some ⟨fg, 0, none⟩) 2 fc, .func (.func 25) #[] #[.pointer (some ⟨fb, 0, none⟩), .pointer (some ⟨cb, 0, none⟩)]] W fun e w' => e = .returned (.int .i64 (if k = 14 then 1 else -1)) ∧ Below W.heap.size W w' := by
    intro W fb cb hF hG hB hC
    have HF := hide hF
    have HGg := hide hG
    have HB := hide hB
    have HC := hide hC
    clear hF hG hB hC HFF HG
    go_enter Tryz.func43, Tryz.ntmps43
    go_wp2_with fail
    refine wp_loop_rounds 3 ?_
    rw [rounds_succ]
    have H0 := HF.out.sub 0 (prV (1, 11, 14)) rfl
    go_wp2_with (first
      | ((with_reducible refine wpList_load_mid ?_ 54 (.tmp 14) ?_ fg 0 ?_ (prV (1, 11, 14)) _ ?_ Tryz.underlying54 ?_ ?_ ?_); (focus rfl); (focus rfl); (focus rfl); (focus exact HF.out.sub 0 (prV (1, 11, 14)) rfl); (focus rfl); (focus kernel_rfl))
      | (go_at_call 25; refine (cov_cl 1 11 k (.inl rfl) hk fb cb g cc _ HB.out HC.out HGg.out).mono ?_; rintro e w1 ⟨rfl, hb1⟩; have Hb1 := hide hb1; replace HF := hide (HF.out.below hb1); replace HB := hide (HB.out.below hb1); replace HC := hide (HC.out.below hb1); replace HGg := hide (HGg.out.below hb1); clear hb1 H0))
    rw [rounds_succ]
    rcases hk with rfl | rfl
    · go_wp2_with (first
        | ((with_reducible refine wpList_load_mid ?_ 54 (.tmp 14) ?_ fg 3 ?_ (prV (2, 21, 14)) _ ?_ Tryz.underlying54 ?_ ?_ ?_); (focus rfl); (focus rfl); (focus rfl); (focus exact HF.out.sub 3 (prV (2, 21, 14)) rfl); (focus rfl); (focus kernel_rfl))
        | (go_at_call 25; refine (cov_cl 2 21 14 (.inr rfl) (.inl rfl) fb cb g cc _ HB.out HC.out HGg.out).mono ?_; rintro e w2 ⟨rfl, hb2⟩; have Hb2 := hide hb2; clear hb2))
      go_ret
      exact ⟨rfl, Hb1.out.trans (Hb2.out.mono Hb1.out.size)⟩
    · go_wp2_with (first
        | ((with_reducible refine wpList_load_mid ?_ 54 (.tmp 14) ?_ fg 3 ?_ (prV (2, 21, 14)) _ ?_ Tryz.underlying54 ?_ ?_ ?_); (focus rfl); (focus rfl); (focus rfl); (focus exact HF.out.sub 3 (prV (2, 21, 14)) rfl); (focus rfl); (focus kernel_rfl))
        | (go_at_call 25; refine (cov_cl 2 21 3 (.inr rfl) (.inr rfl) fb cb g cc _ HB.out HC.out HGg.out).mono ?_; rintro e w2 ⟨rfl, hb2⟩; have Hb2 := hide hb2; clear hb2))
      rw [rounds_succ]
      go_wp2_with fail
      go_ret
      exact ⟨rfl, Hb1.out.trans (Hb2.out.mono Hb1.out.size)⟩
  have hco : ∀ (W : World) (fb cb : Nat), BoxAt W fg (prV (1, 11, 14) ++ prV (2, 21, 14)) → BoxAt W g [.int .i64 21] → BoxAt W fb [.int .i64 5, .int .i64 k] → BoxAt W cb [.slice (some ⟨g, 0, none⟩) 1 cc] →
      Calls Tryz.prog 24 #[.slice (some ⟨fg, 0, none⟩) 2 fc, .func (.func 25) #[] #[.pointer (some ⟨fb, 0, none⟩), .pointer (some ⟨cb, 0, none⟩)]] W fun e w' => e = .returned (.bool (decide (k = 14))) ∧ Below W.heap.size W w' := by
    intro W fb cb hF hG hB hC
    have Hi := hide (hix W fb cb hF hG hB hC)
    clear hF hG hB hC HFF HG hix
    go_enter Tryz.func24, Tryz.ntmps24
    rcases hk with rfl | rfl
    · go_wp2_with (go_at_call 43; refine Hi.out.mono ?_; rintro e w2 ⟨rfl, hb2⟩; have Hb2 := hide hb2; clear hb2)
      go_ret
      exact ⟨rfl, Hb2.out⟩
    · go_wp2_with (go_at_call 43; refine Hi.out.mono ?_; rintro e w2 ⟨rfl, hb2⟩; have Hb2 := hide hb2; clear hb2)
      go_ret
      exact ⟨rfl, Hb2.out⟩
  have Hco := hide hco
  clear hix hco
  go_enter Tryz.func10, Tryz.ntmps10
  go_upto_region 1 with (fail)
  obtain ⟨W, hW⟩ : ∃ V, V = ((w.alloc (.cells [pv, .slice (some ⟨fg, 0, none⟩) 2 fc].toArray 35)).alloc (.cells [Value.int .i64 5, .int .i64 k].toArray 67)).alloc (.cells [Value.slice (some ⟨g, 0, none⟩) 1 cc].toArray 42) := ⟨_, rfl⟩
  have hb3 := boxes3 w _ _ _ _ _ _ W hW
  rw [← hW]
  clear hW
  obtain ⟨b3, b4, b5, hz, hbW⟩ := hb3
  have H4 := hide b4
  have H5 := hide b5
  have HbW := hide hbW
  replace HFF := hide (HFF.out.below hbW)
  replace HG := hide (HG.out.below hbW)
  have c1 : W.cell? ⟨w.heap.size, 1, none⟩ = some (.slice (some ⟨fg, 0, none⟩) 2 fc) := b3.1 1 _ rfl
  clear b3 b4 b5 hz hbW
  go_wp2_with (go_at_call 24; refine (Hco.out _ _ _ HFF.out HG.out H4.out H5.out).mono ?_; rintro e w2 ⟨rfl, hb2⟩; have Hb2 := hide hb2; clear hb2 c1)
  go_ret
  exact ⟨rfl, HbW.out.trans (Hb2.out.mono HbW.out.size)⟩
end Go.Proofs.YthhfakkfdohcpaaGreat
/- whole.Find at two proofs. No condition. -/
namespace Go.Proofs.YthhfakkfdohcpaaGreat
open Go.RowKit Go.ChangeMaps Go.MapKept
set_option maxRecDepth 100000 in
set_option maxHeartbeats 4000000 in
theorem wfind2 (p1 p2 : Pv) (hp1 : p1.id = 1) (hp2 : p2.id = 2) (g c : Nat) (Af : Option Addr) (nf cf : Nat) (k : Int) (hk : k = 1 ∨ k = 2) (w : World) (hb : BoxAt w g (pvL p1 ++ pvL p2)) : Calls Tryz.prog 8 #[.agg #[.slice (some ⟨g, 0, none⟩) 2 c, .slice Af nf cf], .int .i64 k] w (PfTo w (pvL (if k = 1 then p1 else p2)) true) := by
  have H := hide hb; clear hb
  go_enter Tryz.func8, Tryz.ntmps8
  go_upto_region 1 with (fail)
  obtain ⟨W, hW⟩ : ∃ V, V = (w.alloc (.cells [Value.slice (some ⟨g, 0, none⟩) 2 c, .slice Af nf cf].toArray 35)).alloc (.cells pfZ.toArray 61) := ⟨_, rfl⟩
  have hb2 := boxes2 w _ _ _ _ W hW
  have hW' := hW
  simp only [pfZ, pfL, smZ, List.cons_append, List.nil_append] at hW'
  rw [← hW']
  clear hW hW'
  obtain ⟨b2, b4, hz, hbW⟩ := hb2
  have q0 : W.cell? ⟨w.heap.size, 0, none⟩ = some (.slice (some ⟨g, 0, none⟩) 2 c) := b2.1 0 _ rfl
  have H4 := hide b4
  have HbW := hide hbW
  have Hz := hide hz
  replace H := hide (H.out.below hbW)
  clear b2 b4 hbW hz
  go_wp2_with (first
    | (have h43 := HV4; clear h43; exact bodyPost_ret (res_box2 (cs := pvL (if k = 1 then p1 else p2)) rfl rfl rfl HV4.out Tryz.underlying61 rfl (by kernel_rfl)) rfl ⟨rfl, HbW.out.trans (HTV4.out.below HbW.out.size (fun k hk => by omega))⟩)
    | (go_at_call 23; refine (proof2 p1 p2 hp1 hp2 g c k hk _ H.out).mono ?_; rintro e w1 ⟨rfl, hb1⟩; replace H4 := hide (H4.out.below hb1); replace HbW := hide (HbW.out.trans (hb1.mono HbW.out.size)); clear hb1 q0)
    | ((with_reducible refine wpList_store_in ?_ ?_ 61 (.tmp 4) (.tmp 10) ?_ (w.heap.size + 1) 0 pfZ (pvL (if k = 1 then p1 else p2)) (pvL (if k = 1 then p1 else p2)) ?_ ?_ ?_ ?_ ?_ ?_ ?_ ?_); (focus rfl); (focus rfl); (focus rfl); (focus rfl); (focus rfl); (focus exact H4.out); (focus (show 0 + 16 ≤ 16; decide)); (focus rfl); (focus kernel_rfl); (focus exact pvL_one _); intro V4 hV4 hTV4; have HV4 := hide hV4; have HTV4 := hide hTV4; clear hV4 hTV4))
end Go.Proofs.YthhfakkfdohcpaaGreat
/- SameFindings at the findings of the examples. No condition. -/
namespace Go.Proofs.YthhfakkfdohcpaaGreat
open Go.RowKit Go.ChangeMaps Go.MapKept
def fi1 : List Value := [.int .i64 1, .int .i64 11, .int .i64 14]
def fi2 : List Value := [.int .i64 2, .int .i64 21, .int .i64 14]
set_option maxRecDepth 100000 in
set_option maxHeartbeats 4000000 in
theorem same_two (g h c d : Nat) (w : World) (hg : BoxAt w g (fi1 ++ fi2)) (hh : BoxAt w h (fi1 ++ fi2)) : Calls Tryz.prog 9 #[.slice (some ⟨g, 0, none⟩) 2 c, .slice (some ⟨h, 0, none⟩) 2 d] w fun e w' => e = .returned (.bool true) ∧ Below w.heap.size w w' := by
  have e1 : ∀ W, (binOp .neq 54 (.agg fi1.toArray) (.agg fi1.toArray)).run Tryz.prog W = .ok (.bool false) W := fun _ => by kernel_rfl
  have e2 : ∀ W, (binOp .neq 54 (.agg fi2.toArray) (.agg fi2.toArray)).run Tryz.prog W = .ok (.bool false) W := fun _ => by kernel_rfl
  have HG := hide hg; clear hg
  have HH := hide hh; clear hh
  go_enter Tryz.func9, Tryz.ntmps9
  go_wp2_with fail
  refine wp_loop_rounds 3 ?_
  rw [rounds_succ]
  go_upto_region 6 with (fail)
  refine wp_region_held_drew (S := fun w' => BoxAt w' g (fi1 ++ fi2) ∧ BoxAt w' h (fi1 ++ fi2)) (by kernel_rfl) ?_ (fun hHeld => ?_)
  · exact ⟨HG.out.below (Below.refl _ _).drew, HH.out.below (Below.refl _ _).drew⟩
  generalize hw0 : World.drew w = z1 at hHeld ⊢
  have HB0 : Hid (Below w.heap.size w z1) := hide (by rw [← hw0]; exact (Below.refl _ w).drew)
  replace HG := hide (HG.out.below HB0.out)
  replace HH := hide (HH.out.below HB0.out)
  have HC1 := HB0
  clear hw0
  refine take_as 0 (some 17) (v := ?_) rfl rfl (by kernel_rfl) (by kernel_rfl) (by kernel_rfl) (fun _ _ _ h => h) (Or.inl ⟨by rfl, ?_⟩) (by assumption) ?_
  rotate_left 1
  · intro w2 hSw
    go_simp
    try with_reducible rfl
  try simp only [Act.put, List.setIfInBounds_toArray, List.set_cons_zero, List.set_cons_succ]
  refine take_as 1 (some 18) (v := ?_) rfl rfl (by kernel_rfl) (by kernel_rfl) (by kernel_rfl) (fun _ _ _ h => h) (Or.inl ⟨by rfl, ?_⟩) (by assumption) ?_
  rotate_left 1
  · intro w2 hSw
    go_simp
    try with_reducible rfl
  try simp only [Act.put, List.setIfInBounds_toArray, List.set_cons_zero, List.set_cons_succ]
  refine take_as 2 (some 19) (v := ?_) rfl rfl (by kernel_rfl) (by kernel_rfl) (by kernel_rfl) (fun _ _ _ h => h) (Or.inl ⟨by rfl, ?_⟩) (by assumption) ?_
  rotate_left 1
  · intro w2 hSw
    go_simp
    try with_reducible rfl
  try simp only [Act.put, List.setIfInBounds_toArray, List.set_cons_zero, List.set_cons_succ]
  refine take_as 3 (some 20) rfl rfl (by kernel_rfl) (by kernel_rfl) (by kernel_rfl) (fun _ _ _ h => h) (yieldsIf_load_mid (by rfl) 54 (.tmp 19) rfl g 0 rfl fi1 _ (fun w2 hSw => hSw.1.sub 0 fi1 rfl) Tryz.underlying54 rfl (by kernel_rfl)) (by assumption) ?_
  try simp only [Act.put, List.setIfInBounds_toArray, List.set_cons_zero, List.set_cons_succ]
  refine take_as 4 (some 21) (v := ?_) rfl rfl (by kernel_rfl) (by kernel_rfl) (by kernel_rfl) (fun _ _ _ h => h) (Or.inl ⟨by rfl, ?_⟩) (by assumption) ?_
  rotate_left 1
  · intro w2 hSw
    go_simp
    try with_reducible rfl
  try simp only [Act.put, List.setIfInBounds_toArray, List.set_cons_zero, List.set_cons_succ]
  refine take_as 5 (some 22) (v := ?_) rfl rfl (by kernel_rfl) (by kernel_rfl) (by kernel_rfl) (fun _ _ _ h => h) (Or.inl ⟨by rfl, ?_⟩) (by assumption) ?_
  rotate_left 1
  · intro w2 hSw
    go_simp
    try with_reducible rfl
  try simp only [Act.put, List.setIfInBounds_toArray, List.set_cons_zero, List.set_cons_succ]
  refine take_as 6 (some 23) (v := ?_) rfl rfl (by kernel_rfl) (by kernel_rfl) (by kernel_rfl) (fun _ _ _ h => h) (Or.inl ⟨by rfl, ?_⟩) (by assumption) ?_
  rotate_left 1
  · intro w2 hSw
    go_simp
    try with_reducible rfl
  try simp only [Act.put, List.setIfInBounds_toArray, List.set_cons_zero, List.set_cons_succ]
  refine take_as 7 (some 24) rfl rfl (by kernel_rfl) (by kernel_rfl) (by kernel_rfl) (fun _ _ _ h => h) (yieldsIf_load_mid (by rfl) 54 (.tmp 23) rfl h 0 rfl fi1 _ (fun w2 hSw => hSw.2.sub 0 fi1 rfl) Tryz.underlying54 rfl (by kernel_rfl)) (by assumption) ?_
  try simp only [Act.put, List.setIfInBounds_toArray, List.set_cons_zero, List.set_cons_succ]
  refine take_as 8 (some 25) (v := ?_) rfl rfl (by kernel_rfl) (by kernel_rfl) (by kernel_rfl) (fun _ _ _ h => h) (Or.inl ⟨by rfl, ?_⟩) (by assumption) ?_
  rotate_left 1
  · intro w2 hSw
    have hl := e1 w2
    go_simp
    try with_reducible rfl
  try simp only [Act.put, List.setIfInBounds_toArray, List.set_cons_zero, List.set_cons_succ]
  refine wpAnyH_done (by kernel_rfl) ?_ _
  go_wp2_with fail
  rw [rounds_succ]
  go_upto_region 6 with (fail)
  refine wp_region_held_drew (S := fun w' => BoxAt w' g (fi1 ++ fi2) ∧ BoxAt w' h (fi1 ++ fi2)) (by kernel_rfl) ?_ (fun hHeld => ?_)
  · exact ⟨HG.out.below (Below.refl _ _).drew, HH.out.below (Below.refl _ _).drew⟩
  generalize hw0 : World.drew z1 = z2 at hHeld ⊢
  have HB0 : Hid (Below z1.heap.size z1 z2) := hide (by rw [← hw0]; exact (Below.refl _ z1).drew)
  replace HG := hide (HG.out.below HB0.out)
  replace HH := hide (HH.out.below HB0.out)
  have HC2 := HB0
  clear hw0
  refine take_as 0 (some 17) (v := ?_) rfl rfl (by kernel_rfl) (by kernel_rfl) (by kernel_rfl) (fun _ _ _ h => h) (Or.inl ⟨by rfl, ?_⟩) (by assumption) ?_
  rotate_left 1
  · intro w2 hSw
    go_simp
    try with_reducible rfl
  try simp only [Act.put, List.setIfInBounds_toArray, List.set_cons_zero, List.set_cons_succ]
  refine take_as 1 (some 18) (v := ?_) rfl rfl (by kernel_rfl) (by kernel_rfl) (by kernel_rfl) (fun _ _ _ h => h) (Or.inl ⟨by rfl, ?_⟩) (by assumption) ?_
  rotate_left 1
  · intro w2 hSw
    go_simp
    try with_reducible rfl
  try simp only [Act.put, List.setIfInBounds_toArray, List.set_cons_zero, List.set_cons_succ]
  refine take_as 2 (some 19) (v := ?_) rfl rfl (by kernel_rfl) (by kernel_rfl) (by kernel_rfl) (fun _ _ _ h => h) (Or.inl ⟨by rfl, ?_⟩) (by assumption) ?_
  rotate_left 1
  · intro w2 hSw
    go_simp
    try with_reducible rfl
  try simp only [Act.put, List.setIfInBounds_toArray, List.set_cons_zero, List.set_cons_succ]
  refine take_as 3 (some 20) rfl rfl (by kernel_rfl) (by kernel_rfl) (by kernel_rfl) (fun _ _ _ h => h) (yieldsIf_load_mid (by rfl) 54 (.tmp 19) rfl g 3 rfl fi2 _ (fun w2 hSw => hSw.1.sub 3 fi2 rfl) Tryz.underlying54 rfl (by kernel_rfl)) (by assumption) ?_
  try simp only [Act.put, List.setIfInBounds_toArray, List.set_cons_zero, List.set_cons_succ]
  refine take_as 4 (some 21) (v := ?_) rfl rfl (by kernel_rfl) (by kernel_rfl) (by kernel_rfl) (fun _ _ _ h => h) (Or.inl ⟨by rfl, ?_⟩) (by assumption) ?_
  rotate_left 1
  · intro w2 hSw
    go_simp
    try with_reducible rfl
  try simp only [Act.put, List.setIfInBounds_toArray, List.set_cons_zero, List.set_cons_succ]
  refine take_as 5 (some 22) (v := ?_) rfl rfl (by kernel_rfl) (by kernel_rfl) (by kernel_rfl) (fun _ _ _ h => h) (Or.inl ⟨by rfl, ?_⟩) (by assumption) ?_
  rotate_left 1
  · intro w2 hSw
    go_simp
    try with_reducible rfl
  try simp only [Act.put, List.setIfInBounds_toArray, List.set_cons_zero, List.set_cons_succ]
  refine take_as 6 (some 23) (v := ?_) rfl rfl (by kernel_rfl) (by kernel_rfl) (by kernel_rfl) (fun _ _ _ h => h) (Or.inl ⟨by rfl, ?_⟩) (by assumption) ?_
  rotate_left 1
  · intro w2 hSw
    go_simp
    try with_reducible rfl
  try simp only [Act.put, List.setIfInBounds_toArray, List.set_cons_zero, List.set_cons_succ]
  refine take_as 7 (some 24) rfl rfl (by kernel_rfl) (by kernel_rfl) (by kernel_rfl) (fun _ _ _ h => h) (yieldsIf_load_mid (by rfl) 54 (.tmp 23) rfl h 3 rfl fi2 _ (fun w2 hSw => hSw.2.sub 3 fi2 rfl) Tryz.underlying54 rfl (by kernel_rfl)) (by assumption) ?_
  try simp only [Act.put, List.setIfInBounds_toArray, List.set_cons_zero, List.set_cons_succ]
  refine take_as 8 (some 25) (v := ?_) rfl rfl (by kernel_rfl) (by kernel_rfl) (by kernel_rfl) (fun _ _ _ h => h) (Or.inl ⟨by rfl, ?_⟩) (by assumption) ?_
  rotate_left 1
  · intro w2 hSw
    have hl := e2 w2
    go_simp
    try with_reducible rfl
  try simp only [Act.put, List.setIfInBounds_toArray, List.set_cons_zero, List.set_cons_succ]
  refine wpAnyH_done (by kernel_rfl) ?_ _
  go_wp2_with fail
  rw [rounds_succ]
  go_wp2_with fail
  go_ret
  exact ⟨rfl, HC1.out.trans (HC2.out.mono HC1.out.size)⟩
end Go.Proofs.YthhfakkfdohcpaaGreat
/- The examples: they answer as they are said to. No condition. -/
namespace Go.Proofs.YthhfakkfdohcpaaGreat
open Go.RowKit Go.ChangeMaps Go.MapKept
theorem wpList_store_first {ops : Array Oper} {rest : List Oper} {o : Oper} {a : Act} {w : World} {Q : Exit → Act → World → Prop} (hg : o.guard = none) (hd : o.dst = none) (ty : TypeId) (x y : Operand) (ho : o.op = .store ty x y)
    {A B : List Value} {t u : TypeId} (cs : List Value) (hx : a.eval x = .pointer (some ⟨w.heap.size, 0, none⟩)) (hy : a.eval y = .agg cs.toArray) (hl : A.length = cs.length) (hi : (Tryz.prog.info? ty).map (·.size) = some cs.toArray.size) (h1 : ∀ v ∈ cs, v.oneCell' = true)
    (h : ∀ V, BoxAt V w.heap.size cs → BoxAt V (w.heap.size + 1) B → Below w.heap.size w V → wpList Tryz.prog ops Q rest a V) : wpList Tryz.prog ops Q (o :: rest) a ((w.alloc (.cells A.toArray t)).alloc (.cells B.toArray u)) := by
  have hal : ∀ (V : World) (o : Obj), Below V.heap.size V (V.alloc o) := fun V o => (Below.refl _ V).alloc (Nat.le_refl _) _
  have s1 := World.size_alloc w (.cells A.toArray t)
  have hA := (BoxAt.new w A t).below (hal _ (.cells B.toArray u))
  have hB := BoxAt.new (w.alloc (.cells A.toArray t)) B u
  rw [s1] at hB
  have hb : Below w.heap.size w ((w.alloc (.cells A.toArray t)).alloc (.cells B.toArray u)) := (hal w _).trans ((hal _ _).mono (by simp))
  refine wpList_store_in hg hd ty x y ho w.heap.size 0 A cs cs hx hy hA (by omega) ?_ hi h1 fun V hV hT => ?_
  · rw [List.drop_eq_nil_of_le (by omega)]
    simp
  · exact h V hV (hB.but hT (by omega)) (hb.trans (hT.below (by simp; omega) (fun k hk => by omega)))
theorem bs_want (W : World) : (Instr.buildSlice 33 2 #[(0, .agg #[.int .i64 1, .int .i64 11, .int .i64 14]), (1, .agg #[.int .i64 2, .int .i64 21, .int .i64 14])]).run Tryz.prog W = .ok (.slice (some ⟨W.heap.size, 0, none⟩) 2 2) (W.alloc (.cells (fi1 ++ fi2).toArray 54)) := by kernel_rfl
set_option maxRecDepth 100000 in
set_option maxHeartbeats 16000000 in
theorem examples_true (w : World) : Calls Tryz.prog 4 #[] w fun e w' => e = .returned (.bool true) ∧ Below w.heap.size w w' := by
  have HbW : Hid (Below w.heap.size w w) := hide (Below.refl _ _)
  go_enter Tryz.func4, Tryz.ntmps4
  go_upto_region 2 with (first
    | (have hx := HDA; clear hx; go_at_call 7; refine (crossed_any 2 (.inr rfl) _).mono ?_; rintro e w3 ⟨b2, x1, x2, rfl, hcr, hb⟩; replace HDA := hide (HDA.out.below hb); replace HbW := hide (HbW.out.trans (hb.mono HbW.out.size)); have HC2 := hide hcr; clear hcr hb)
    | (have hx := HC2; clear hx; go_at_call 6; refine (done_ok b2 2 (0, 1, 11) (1, 2, 21) [] _ (fun W hW => cold_two b2 x1 x2 W (HC2.out.below hW))).mono ?_; rintro e w4 ⟨gB, cB, p3, p4, AB, nB, dB, rfl, hd, hb⟩; replace HDA := hide (HDA.out.below hb); replace HbW := hide (HbW.out.trans (hb.mono HbW.out.size)); have HDB := hide hd; clear hd hb)
    | (go_at_call 7; refine (crossed_any 0 (.inl rfl) _).mono ?_; rintro e w1 ⟨b1, y1, y2, rfl, hcr, hb⟩; replace HbW := hide (HbW.out.trans (hb.mono HbW.out.size)); have HC1 := hide hcr; clear hcr hb)
    | (go_at_call 6; refine (done_ok b1 0 (0, 1, 11) (1, 0, 21) [(1, 11, 14), (2, 21, 14)] _ (fun W hW => cold_zero b1 y1 y2 W (HC1.out.below hW))).mono ?_; rintro e w2 ⟨gA, cA, p1, p2, AA, nA, dA, rfl, hd, hb⟩; replace HbW := hide (HbW.out.trans (hb.mono HbW.out.size)); have HDA := hide hd; clear hd hb)
    | ((with_reducible refine wpList_store_first ?_ ?_ 38 (.tmp 1) (.tmp 8) ?_ [.slice (some ⟨gA, 0, none⟩) 2 cA, .slice AA nA dA, .int .i64 0] ?_ ?_ ?_ ?_ ?_ ?_); (focus rfl); (focus rfl); (focus rfl); (focus rfl); (focus rfl); (focus rfl); (focus kernel_rfl); (focus exact do_one); intro V1 hV1 hV2 hb; have HA := hide hV1; have HB0 := hide hV2; have Hb4 := hide hb; clear hV1 hV2 hb)
    | ((with_reducible refine wpList_store_in ?_ ?_ 38 (.tmp 2) (.tmp 11) ?_ (w4.heap.size + 1) 0 doZ [.slice (some ⟨gB, 0, none⟩) 2 cB, .slice AB nB dB, .int .i64 0] [.slice (some ⟨gB, 0, none⟩) 2 cB, .slice AB nB dB, .int .i64 0] ?_ ?_ ?_ ?_ ?_ ?_ ?_ ?_); (focus rfl); (focus rfl); (focus rfl); (focus rfl); (focus rfl); (focus exact HB0.out); (focus (show 0 + 3 ≤ 3; decide)); (focus rfl); (focus kernel_rfl); (focus exact do_one); intro V2 hV hT; have HB := hide hV; replace HA := hide (HA.out.but hT (by omega)); have hb : Below w4.heap.size w4 V2 := Hb4.out.trans (hT.below Hb4.out.size (fun k hk => by omega)); replace HDA := hide (HDA.out.below hb); replace HDB := hide (HDB.out.below hb); replace HbW := hide (HbW.out.trans (hb.mono HbW.out.size)); clear hV hT hb))
  clear Hb4 HB0 HC1 HC2
  obtain ⟨n4, hq4⟩ : ∃ q, q = w4.heap.size := ⟨_, rfl⟩
  rw [← hq4] at HA HB ⊢
  clear hq4
  have hnA : nA = 2 := HDA.out.n
  have hnB : nB = 0 := HDB.out.n
  subst hnA hnB
  obtain ⟨hF, hAA, -, hPF⟩ := HDA.out.fn (by simp)
  subst hAA
  have HF := hide (show BoxAt V2 hF (fi1 ++ fi2) from hPF)
  have HP := hide HDA.out.pv.box
  have hi1 := HDA.out.pv.id1
  have hi2 := HDA.out.pv.id2
  clear hPF HDB HDA
  have hfn : ∀ W, BoxAt W gA (pvL p1 ++ pvL p2) → Calls Tryz.prog 8 #[.agg #[.slice (some ⟨gA, 0, none⟩) 2 cA, .slice (some ⟨hF, 0, none⟩) 2 dA], .int .i64 2] W (PfTo W (pvL p2) true) := fun W h => by
    have := wfind2 p1 p2 hi1 hi2 gA cA (some ⟨hF, 0, none⟩) 2 dA 2 (.inr rfl) W h
    simpa using this
  have Hfn := hide hfn
  clear hfn
  go_upto_region 4 with (first
    | ((with_reducible refine wpList_bslice2 ?_ ?_ 33 54 (.tmp 12) (.tmp 13) ?_ (.agg #[.int .i64 1, .int .i64 11, .int .i64 14]) (.agg #[.int .i64 2, .int .i64 21, .int .i64 14]) (fi1 ++ fi2) ?_ ?_ bs_want ?_); (focus rfl); (focus rfl); (focus rfl); (focus rfl); (focus rfl); intro gw Vw hVw hgw hb; have HWt := hide hVw; replace HA := hide (HA.out.below hb); replace HB := hide (HB.out.below hb); replace HF := hide (HF.out.below hb); replace HP := hide (HP.out.below hb); replace HbW := hide (HbW.out.trans (hb.mono HbW.out.size)); clear hVw hgw hb)
    | ((with_reducible refine wpList_load_mid ?_ 35 (.tmp 16) ?_ (n4) (0) ?_ [.slice (some ⟨gA, 0, none⟩) 2 cA, .slice (some ⟨hF, 0, none⟩) 2 dA] _ ?_ Tryz.underlying35 ?_ ?_ ?_); (focus rfl); (focus rfl); (focus rfl); (focus exact HA.out.sub 0 [.slice (some ⟨gA, 0, none⟩) 2 cA, .slice (some ⟨hF, 0, none⟩) 2 dA] rfl); (focus rfl); (focus kernel_rfl))
    | (go_at_call 8; refine (Hfn.out _ HP.out).mono ?_; rintro e w5 ⟨rfl, hb⟩; replace HA := hide (HA.out.below hb); replace HB := hide (HB.out.below hb); replace HF := hide (HF.out.below hb); replace HP := hide (HP.out.below hb); replace HWt := hide (HWt.out.below hb); replace HbW := hide (HbW.out.trans (hb.mono HbW.out.size)); clear hb)
    | ((with_reducible refine wpList_store_new ?_ ?_ 61 (.tmp 4) (.tmp 19) ?_ (pvL p2) ?_ ?_ ?_ ?_ ?_ ?_); (focus rfl); (focus rfl); (focus rfl); (focus rfl); (focus rfl); (focus rfl); (focus kernel_rfl); (focus exact (pvL_one p2)); intro V4 hV4 hbV4; have HV4 := hide hV4; have HbV4 := hide hbV4; clear hV4 hbV4; replace HA := hide (HA.out.below HbV4.out); replace HB := hide (HB.out.below HbV4.out); replace HF := hide (HF.out.below HbV4.out); replace HP := hide (HP.out.below HbV4.out); replace HWt := hide (HWt.out.below HbV4.out); replace HbW := hide (HbW.out.trans (HbV4.out.mono HbW.out.size))))
  obtain ⟨g4, hq4⟩ : ∃ q, q = w5.heap.size := ⟨_, rfl⟩
  rw [← hq4] at HV4 ⊢
  clear hq4
  have hfld : ∀ W, (Instr.field 38 (.agg #[.slice none 0 0, .slice none 0 0, .int .i64 1]) 1).run Tryz.prog W = .ok (.int .i64 1) W := fun _ => by kernel_rfl
  have f1 : V4.cell? ⟨n4, 2, none⟩ = some (.int .i64 0) := HA.out.1 2 _ rfl
  have f2 : V4.cell? ⟨n4, 1, none⟩ = some (.slice (some ⟨hF, 0, none⟩) 2 dA) := HA.out.1 1 _ rfl
  have f3 : V4.cell? ⟨n4 + 1, 2, none⟩ = some (.int .i64 0) := HB.out.1 2 _ rfl
  have f4 : V4.cell? ⟨n4 + 1, 1, none⟩ = some (.slice AB 0 dB) := HB.out.1 1 _ rfl
  have f5 : V4.cell? ⟨n4 + 1, 0, none⟩ = some (.slice (some ⟨gB, 0, none⟩) 2 cB) := HB.out.1 0 _ rfl
  have f6 : V4.cell? ⟨g4, 0, none⟩ = some (.int .i64 2) := (by rw [← hi2]; exact HV4.out.1 0 _ rfl)
  go_wp2_with (first
    | (go_at_call 9; refine (same_two hF gw dA 2 _ HF.out HWt.out).mono ?_; rintro e w6 ⟨rfl, hb⟩; clear f1 f2 f3 f4 f5 f6; replace HA := hide (HA.out.below hb); replace HB := hide (HB.out.below hb); replace HF := hide (HF.out.below hb); replace HP := hide (HP.out.below hb); replace HV4 := hide (HV4.out.below hb); replace HbW := hide (HbW.out.trans (hb.mono HbW.out.size)); clear hb; have f1 : w6.cell? ⟨n4, 2, none⟩ = some (.int .i64 0) := HA.out.1 2 _ rfl; have f2 : w6.cell? ⟨n4, 1, none⟩ = some (.slice (some ⟨hF, 0, none⟩) 2 dA) := HA.out.1 1 _ rfl; have f3 : w6.cell? ⟨n4 + 1, 2, none⟩ = some (.int .i64 0) := HB.out.1 2 _ rfl; have f4 : w6.cell? ⟨n4 + 1, 1, none⟩ = some (.slice AB 0 dB) := HB.out.1 1 _ rfl; have f5 : w6.cell? ⟨n4 + 1, 0, none⟩ = some (.slice (some ⟨gB, 0, none⟩) 2 cB) := HB.out.1 0 _ rfl; have f6 : w6.cell? ⟨g4, 0, none⟩ = some (.int .i64 2) := (by rw [← hi2]; exact HV4.out.1 0 _ rfl))
    | (have hx := HY8; clear hx; go_at_call 10; refine (cov_any 3 (.inr rfl) (.slice (some ⟨gA, 0, none⟩) 2 cA) rfl hF dA 1 _ _ (HF.out.below ((Below.refl _ _).alloc (Nat.le_refl _) _)) (BoxAt.new _ [.int .i64 21] _)).mono ?_; rintro e w10 ⟨rfl, hb⟩; replace hb := (((Below.refl _ _).alloc (Nat.le_refl _) _).trans (hb.mono (by simp))); clear f1 f2 f3 f4 f5 f6; replace HA := hide (HA.out.below hb); replace HB := hide (HB.out.below hb); replace HF := hide (HF.out.below hb); replace HP := hide (HP.out.below hb); replace HV4 := hide (HV4.out.below hb); replace HbW := hide (HbW.out.trans (hb.mono HbW.out.size)); clear hb)
    | (have hx := HX7; clear hx; go_at_call 10; refine (cov_any 14 (.inl rfl) (.slice (some ⟨gA, 0, none⟩) 2 cA) rfl hF dA 1 _ _ (HF.out.below ((Below.refl _ _).alloc (Nat.le_refl _) _)) (BoxAt.new _ [.int .i64 21] _)).mono ?_; rintro e w9 ⟨rfl, hb⟩; replace hb := (((Below.refl _ _).alloc (Nat.le_refl _) _).trans (hb.mono (by simp))); have HY8 := trivial; clear f1 f2 f3 f4 f5 f6; replace HA := hide (HA.out.below hb); replace HB := hide (HB.out.below hb); replace HF := hide (HF.out.below hb); replace HP := hide (HP.out.below hb); replace HV4 := hide (HV4.out.below hb); replace HbW := hide (HbW.out.trans (hb.mono HbW.out.size)); clear hb; have f1 : w9.cell? ⟨n4, 2, none⟩ = some (.int .i64 0) := HA.out.1 2 _ rfl; have f2 : w9.cell? ⟨n4, 1, none⟩ = some (.slice (some ⟨hF, 0, none⟩) 2 dA) := HA.out.1 1 _ rfl; have f3 : w9.cell? ⟨n4 + 1, 2, none⟩ = some (.int .i64 0) := HB.out.1 2 _ rfl; have f4 : w9.cell? ⟨n4 + 1, 1, none⟩ = some (.slice AB 0 dB) := HB.out.1 1 _ rfl; have f5 : w9.cell? ⟨n4 + 1, 0, none⟩ = some (.slice (some ⟨gB, 0, none⟩) 2 cB) := HB.out.1 0 _ rfl; have f6 : w9.cell? ⟨g4, 0, none⟩ = some (.int .i64 2) := (by rw [← hi2]; exact HV4.out.1 0 _ rfl))
    | (go_at_call 7; refine (crossed_any 0 (.inl rfl) _).mono ?_; rintro e w7 ⟨b3, z1, z2, rfl, hcr, hb⟩; clear f1 f2 f3 f4 f5 f6; replace HA := hide (HA.out.below hb); replace HB := hide (HB.out.below hb); replace HF := hide (HF.out.below hb); replace HP := hide (HP.out.below hb); replace HV4 := hide (HV4.out.below hb); replace HbW := hide (HbW.out.trans (hb.mono HbW.out.size)); clear hb hcr; have f1 : w7.cell? ⟨n4, 2, none⟩ = some (.int .i64 0) := HA.out.1 2 _ rfl; have f2 : w7.cell? ⟨n4, 1, none⟩ = some (.slice (some ⟨hF, 0, none⟩) 2 dA) := HA.out.1 1 _ rfl; have f3 : w7.cell? ⟨n4 + 1, 2, none⟩ = some (.int .i64 0) := HB.out.1 2 _ rfl; have f4 : w7.cell? ⟨n4 + 1, 1, none⟩ = some (.slice AB 0 dB) := HB.out.1 1 _ rfl; have f5 : w7.cell? ⟨n4 + 1, 0, none⟩ = some (.slice (some ⟨gB, 0, none⟩) 2 cB) := HB.out.1 0 _ rfl; have f6 : w7.cell? ⟨g4, 0, none⟩ = some (.int .i64 2) := (by rw [← hi2]; exact HV4.out.1 0 _ rfl))
    | (go_at_call 6; refine (done_no b3 _).mono ?_; rintro e w8 ⟨rfl, hb⟩; have HX7 := trivial; clear f1 f2 f3 f4 f5 f6; replace HA := hide (HA.out.below hb); replace HB := hide (HB.out.below hb); replace HF := hide (HF.out.below hb); replace HP := hide (HP.out.below hb); replace HV4 := hide (HV4.out.below hb); replace HbW := hide (HbW.out.trans (hb.mono HbW.out.size)); clear hb; have f1 : w8.cell? ⟨n4, 2, none⟩ = some (.int .i64 0) := HA.out.1 2 _ rfl; have f2 : w8.cell? ⟨n4, 1, none⟩ = some (.slice (some ⟨hF, 0, none⟩) 2 dA) := HA.out.1 1 _ rfl; have f3 : w8.cell? ⟨n4 + 1, 2, none⟩ = some (.int .i64 0) := HB.out.1 2 _ rfl; have f4 : w8.cell? ⟨n4 + 1, 1, none⟩ = some (.slice AB 0 dB) := HB.out.1 1 _ rfl; have f5 : w8.cell? ⟨n4 + 1, 0, none⟩ = some (.slice (some ⟨gB, 0, none⟩) 2 cB) := HB.out.1 0 _ rfl; have f6 : w8.cell? ⟨g4, 0, none⟩ = some (.int .i64 2) := (by rw [← hi2]; exact HV4.out.1 0 _ rfl))
    | ((with_reducible refine wpList_load_guard ?_ ?_ 35 (.tmp 66) ?_ (n4) (0) ?_ [.slice (some ⟨gA, 0, none⟩) 2 cA, .slice (some ⟨hF, 0, none⟩) 2 dA] _ ?_ Tryz.underlying35 ?_ ?_ ?_); (focus rfl); (focus rfl); (focus rfl); (focus rfl); (focus exact HA.out.sub 0 [.slice (some ⟨gA, 0, none⟩) 2 cA, .slice (some ⟨hF, 0, none⟩) 2 dA] rfl); (focus rfl); (focus kernel_rfl))
    | ((with_reducible refine wpList_load_guard ?_ ?_ 35 (.tmp 73) ?_ (n4) (0) ?_ [.slice (some ⟨gA, 0, none⟩) 2 cA, .slice (some ⟨hF, 0, none⟩) 2 dA] _ ?_ Tryz.underlying35 ?_ ?_ ?_); (focus rfl); (focus rfl); (focus rfl); (focus rfl); (focus exact HA.out.sub 0 [.slice (some ⟨gA, 0, none⟩) 2 cA, .slice (some ⟨hF, 0, none⟩) 2 dA] rfl); (focus rfl); (focus kernel_rfl)))
  go_ret
  exact ⟨rfl, HbW.out⟩

end Go.Proofs.YthhfakkfdohcpaaGreat
