/- The analysis of a body of locks. No condition. -/
import Derived.Test.YthhfakkfdohcpaaGreatM08
import Derived.Test.YthhfakkfdohcpaaGreatM09
namespace Go.Proofs.YthhfakkfdohcpaaGreat
open Go.RowKit Go.ChangeMaps Go.MapKept
/-- The facts that an analysis has noted: at these sites, each a fact of no variables. -/
def FactsOk (Aa : Option Addr) (ca : Nat) (pa : Int) (lx : List (Value × Value)) (ks : List Int) : Prop :=
  KeysOf lx ks ∧ ∀ q ∈ lx, ∃ A c u, EmpA A c ∧ q.2 = .agg (fcL (.slice A 0 c) (.slice Aa 0 ca) u u pa).toArray
/-- How a body of locks goes: the locks held (v), taken (lks, lk), the pairs (pr, lp). -/
structure Goes (ss : List St) (v lks lk : Nat → Int) (pr : Nat → Option (Int × Int)) (lp : Nat → List (Value × Value)) : Prop where
  kd : ∀ j s, ss[j]? = some s → Kd s.2.1 s.2.2 (v j) (lks j) (v (j + 1)) (pr j)
  lk : ∀ j s, ss[j]? = some s → bits BinOp.or .i64 (lk j) (lks j) = lk (j + 1)
  fst : ∀ j s, ss[j]? = some s → pr j ≠ none → lp j = []
  lp : ∀ j s, ss[j]? = some s → lp (j + 1) = lp j ++ prL (pr j) s.1
  site : ∀ j s, ss[j]? = some s → s.1 ∉ (ss.take j).map (·.1)
theorem cut_new {W W' : World} {x mp mx g : Nat} (h : But (fun k => k = x ∨ k = mp ∨ k = mx ∨ k = g) W W') (hg : W.heap.size ≤ g) : But (fun k => k = x ∨ k = mp ∨ k = mx) W W' :=
  ⟨h.os, h.tape, h.output, h.size, fun k hk hn => h.block k hk (fun e => by omega)⟩
theorem facts_next {Aa : Option Addr} {ca : Nat} {pa : Int} {lx : List (Value × Value)} {ss : List St} {j : Nat} {s : St} {A : Option Addr} {c : Nat} {u : Int} (h : FactsOk Aa ca pa lx ((ss.take j).map (·.1))) (hs : ss[j]? = some s) (hA : EmpA A c) :
    FactsOk Aa ca pa (lx ++ [(.int .i64 s.1, .agg (fcL (.slice A 0 c) (.slice Aa 0 ca) u u pa).toArray)]) ((ss.take (j + 1)).map (·.1)) := by
  refine ⟨?_, fun q hq => ?_⟩
  · have h1 : lx.map (·.1) = ((ss.take j).map (·.1)).map (Value.int .i64) := h.1
    show (lx ++ _).map (·.1) = _
    rw [List.map_append, h1, List.take_add_one, hs]
    simp
  · rcases List.mem_append.1 hq with hq | hq
    · exact h.2 q hq
    · simp only [List.mem_singleton] at hq
      subst hq
      exact ⟨A, c, u, hA, rfl⟩
theorem An.anD {W : World} {x mf mp mr mx : Nat} {lk : Int} {rs es : Value} {b : Nat → Nat} {lv id ds : Int} {nm B su : Value} {lp lx : List (Value × Value)} (h : An W x mf mp mr mx lk rs es b lv id ds nm B su lp lx) : AnD W x lv id ds nm B :=
  ⟨h.box.1 17 _ rfl, fun i u hu => (h.box.sub 19 (dfL id ds nm B) rfl) i u hu, h.box.2.2⟩
def LstRel (ss : List St) (v lk : Nat → Int) (lp : Nat → List (Value × Value)) (x mf mp mr mx : Nat) (rs es : Value) (b : Nat → Nat) (lv id ds : Int) (nm : ByteArray) (Ab : Option Addr) (nb cb : Nat) (As : Option Addr) (ns cs : Nat) (Aa : Option Addr) (ca : Nat) (pa : Int) (g7 : Nat) (w : World) (i : Value) (wr : World) : Prop :=
  ∃ (j : Nat) (A : Option Addr) (c : Nat) (lx : List (Value × Value)), j ≤ ss.length ∧ i = .int .i64 j ∧ EmpA A c ∧ An wr x mf mp mr mx (lk j) rs es b lv id ds (.string nm) (.slice Ab nb cb) (.slice As ns cs) (lp j) lx ∧ FactsOk Aa ca pa lx ((ss.take j).map (·.1)) ∧ BoxAt wr g7 (saL (.slice A 0 c) (.slice Aa 0 ca) (v j) pa) ∧ But (fun k => k = x ∨ k = mp ∨ k = mx ∨ k = g7) w wr ∧ BoxAt wr (w.heap.size + 1) saZ
set_option maxRecDepth 100000 in
set_option maxHeartbeats 8000000 in
theorem list_any (ss : List St) (v lks lk : Nat → Int) (pr : Nat → Option (Int × Int)) (lp : Nat → List (Value × Value)) (hgo : Goes ss v lks lk pr lp) (hlen : ss.length ≤ 100) (sb : Nat) (b : Nat → Nat) (As : Option Addr) (ns cs : Nat) (lv : Int) (hl : Lev lv) (id ds : Int) (nm : ByteArray) (Ab : Option Addr) (nb cb : Nat) (Ag Aa : Option Addr) (cg ca : Nat) (hg : EmpA Ag cg) (pa : Int)
    (x mf mp mr mx : Nat) (rs es : Value) (w : World) (h : An w x mf mp mr mx (lk 0) rs es b lv id ds (.string nm) (.slice Ab nb cb) (.slice As ns cs) (lp 0) []) (hss : BodyAt w sb ss) (hsb : sb ≠ x ∧ sb ≠ mp ∧ sb ≠ mx) :
    Calls Tryz.prog 71 #[.pointer (some ⟨x, 0, none⟩), .slice (some ⟨sb, 0, none⟩) ss.length ss.length, .agg (fcL (.slice Ag 0 cg) (.slice Aa 0 ca) (v 0) (v 0) pa).toArray] w fun e w' => ∃ A c lx, e = .returned (.agg (saL (.slice A 0 c) (.slice Aa 0 ca) (v ss.length) pa).toArray) ∧ EmpA A c ∧
      An w' x mf mp mr mx (lk ss.length) rs es b lv id ds (.string nm) (.slice Ab nb cb) (.slice As ns cs) (lp ss.length) lx ∧ FactsOk Aa ca pa lx (ss.map (·.1)) ∧ But (fun k => k = x ∨ k = mp ∨ k = mx) w w' := by
  have H := hide h; clear h
  have Hgo := hide hgo; clear hgo
  have Hl := hide hl; clear hl
  have Hg := hide hg; clear hg
  have Hss := hide hss; clear hss
  have Hsb := hide hsb; clear hsb
  go_enter Tryz.func71, Tryz.ntmps71
  simp only [fcL]
  go_upto_region 1 with (fail)
  obtain ⟨W, hW⟩ : ∃ V, V = (w.alloc (.cells (fcL (.slice Ag 0 cg) (.slice Aa 0 ca) (v 0) (v 0) pa).toArray 164)).alloc (.cells saZ.toArray 166) := ⟨_, rfl⟩
  have hb2 := boxes2 w _ _ _ _ W hW
  have hW' := hW
  simp only [fcL, saZ, zeroL, List.cons_append, List.nil_append] at hW'
  rw [← hW']
  clear hW hW'
  obtain ⟨b5, b6, hz, hbW⟩ := hb2
  have B5 := hide b5
  have B6 := hide b6
  have H1 := hide (H.out.below hbW)
  have HS1 := hide (Hss.out.below hbW)
  have HbW := hide hbW
  have Hz := hide hz
  clear b5 b6 hbW hz
  go_cut [7] (fun t wx => ∃ g7, t = .pointer (some ⟨g7, 0, none⟩) ∧ BoxAt wx g7 (saL (.slice Ag 0 cg) (.slice Aa 0 ca) (v 0) pa) ∧ W.heap.size ≤ g7 ∧ Below W.heap.size W wx)
  case first =>
    refine wp_region_held_drew (S := fun w' => BoxAt w' w.heap.size (fcL (.slice Ag 0 cg) (.slice Aa 0 ca) (v 0) (v 0) pa)) (by kernel_rfl) ?_ (fun hHeld => ?_)
    · exact B5.out.drew
    refine take_as 0 (some 11) rfl rfl (by kernel_rfl) (by kernel_rfl) (by kernel_rfl) (fun _ _ _ h => h) (yieldsIf_load_mid (by rfl) 164 (.tmp 5) rfl w.heap.size 0 rfl (fcL (.slice Ag 0 cg) (.slice Aa 0 ca) (v 0) (v 0) pa) _ (fun w2 h2 => h2.whole) Tryz.underlying164 rfl (by kernel_rfl)) (by assumption) ?_
    try simp only [Act.put, List.setIfInBounds_toArray, List.set_cons_zero, List.set_cons_succ]
    refine wpAnyH_ready (rs := [1, 3]) (by kernel_rfl) (by simp) ?_
    refine AllReadyH.cons rfl (fun K hK => ?_) ?_
    · go_simp
      refine (dead_any _).mono ?_
      rintro e w3 ⟨rfl, hb3⟩
      have HB3 : Hid (Below W.heap.size W w3) := hide (Below.trans (by exact (by repeat (first | with_reducible exact Below.refl _ _ | with_reducible refine Below.setCell ?_ (by simp <;> omega) _ | with_reducible refine below_drewN ?_ _ | with_reducible refine Below.drew ?_ | with_reducible refine Below.alloc ?_ (by simp <;> omega) _ | with_reducible refine Below.setCell ?_ (by simp <;> omega) _ | with_reducible refine Below.alloc ?_ (by simp <;> omega) _ | omega | (simp; done)))) (hb3.mono (by simp)))
      have hs3 := HB3.out.size
      clear hb3
      go_wp2_with fail
      refine hK.out _ _ ?_ (fun hHeld => ?_)
      · exact B5.out.below HB3.out
      clear hK K
      try simp only [Act.put, List.setIfInBounds_toArray, List.set_cons_zero, List.set_cons_succ]
      refine take_as 2 (some 13) (v := ?_) rfl rfl (by kernel_rfl) (by kernel_rfl) (by kernel_rfl) (fun _ _ _ h => h) (Or.inl ⟨by rfl, ?_⟩) (by assumption) ?_
      rotate_left 1
      · intro w2 hSw
        simp only [fcL]
        go_simp
        try with_reducible rfl
      try simp only [Act.put, List.setIfInBounds_toArray, List.set_cons_zero, List.set_cons_succ]
      refine wpAnyH_ready (rs := [3]) (by kernel_rfl) (by simp) ?_
      refine AllReadyH.cons rfl (fun K hK => ?_) ?_
      · go_simp
        have HZ3 := hide (BoxAt.new w3 saZ 166)
        refine hK.out _ _ ?_ (fun hHeld => ?_)
        · (refine B5.out.below ?_; exact (by repeat (first | with_reducible exact HB3.out | with_reducible exact Below.refl _ _ | with_reducible refine Below.setCell ?_ (by simp <;> omega) _ | with_reducible refine below_drewN ?_ _ | with_reducible refine Below.drew ?_ | with_reducible refine Below.alloc ?_ (by simp <;> omega) _ | with_reducible refine Below.setCell ?_ (by simp <;> omega) _ | with_reducible refine Below.alloc ?_ (by simp <;> omega) _ | with_reducible refine Below.setCell ?_ (by omega) _ | with_reducible refine Below.alloc ?_ (by omega) _ | omega | (simp; done))))
        clear hK K
        try simp only [Act.put, List.setIfInBounds_toArray, List.set_cons_zero, List.set_cons_succ]
        refine wpAnyH_ready (rs := [4]) (by kernel_rfl) (by simp) ?_
        refine AllReadyH.cons rfl (fun K hK => ?_) ?_
        · refine step_store_as rfl rfl 166 (.tmp 7) (.tmp 13) rfl w3.heap.size 0 (saL (.slice Ag 0 cg) (.slice Aa 0 ca) (v 0) pa).toArray rfl rfl (HZ3.out.there 0 _ (by show 0 + 17 ≤ 17; decide)) (by kernel_rfl) (all_oneCell_toArray saL_one) ?_
          refine after_put 0 (saL (.slice Ag 0 cg) (.slice Aa 0 ca) (v 0) pa) _ HZ3.out (by show 0 + 17 ≤ 17; decide) rfl (fun V5 hV5 hT5 => ?_)
          have HB5 : Hid (Below W.heap.size W V5) := hide ((HB3.out.alloc hs3 _).trans (hT5.below (by simp; omega) (fun k hk => by omega)))
          refine hK.out _ _ ?_ (fun hHeld => ?_)
          · exact B5.out.below HB5.out
          clear hK K
          try simp only [Act.put, List.setIfInBounds_toArray, List.set_cons_zero, List.set_cons_succ]
          refine wpAnyH_done (by kernel_rfl) ?_ _
          go_wp2_with fail
          go_meet
          exact ⟨w3.heap.size, rfl, hV5, by omega, HB5.out⟩
        exact AllReadyH.nil
      exact AllReadyH.nil
    refine AllReadyH.cons rfl (fun K hK => ?_) ?_
    · go_simp
      have HZ := hide (BoxAt.new W saZ 166)
      refine hK.out _ _ ?_ (fun hHeld => ?_)
      · (refine B5.out.below ?_; exact (by repeat (first | with_reducible exact Below.refl _ _ | with_reducible refine Below.setCell ?_ (by simp <;> omega) _ | with_reducible refine below_drewN ?_ _ | with_reducible refine Below.drew ?_ | with_reducible refine Below.alloc ?_ (by simp <;> omega) _ | with_reducible refine Below.setCell ?_ (by simp <;> omega) _ | with_reducible refine Below.alloc ?_ (by simp <;> omega) _ | omega | (simp; done))))
      clear hK K
      try simp only [Act.put, List.setIfInBounds_toArray, List.set_cons_zero, List.set_cons_succ]
      refine wpAnyH_ready (rs := [1]) (by kernel_rfl) (by simp) ?_
      refine AllReadyH.cons rfl (fun K hK => ?_) ?_
      · go_simp
        refine (dead_any _).mono ?_
        rintro e w3 ⟨rfl, hb3⟩
        have HB3 : Hid (Below W.heap.size W w3) := hide (Below.trans (by exact (by repeat (first | with_reducible exact Below.refl _ _ | with_reducible refine Below.setCell ?_ (by simp <;> omega) _ | with_reducible refine below_drewN ?_ _ | with_reducible refine Below.drew ?_ | with_reducible refine Below.alloc ?_ (by simp <;> omega) _ | with_reducible refine Below.setCell ?_ (by simp <;> omega) _ | with_reducible refine Below.alloc ?_ (by simp <;> omega) _ | omega | (simp; done)))) (hb3.mono (by simp)))
        have hs3 := HB3.out.size
        have HZ3 := hide (HZ.out.drew.below hb3)
        clear hb3
        go_wp2_with fail
        refine hK.out _ _ ?_ (fun hHeld => ?_)
        · exact B5.out.below HB3.out
        clear hK K
        try simp only [Act.put, List.setIfInBounds_toArray, List.set_cons_zero, List.set_cons_succ]
        refine take_as 2 (some 13) (v := ?_) rfl rfl (by kernel_rfl) (by kernel_rfl) (by kernel_rfl) (fun _ _ _ h => h) (Or.inl ⟨by rfl, ?_⟩) (by assumption) ?_
        rotate_left 1
        · intro w2 hSw
          simp only [fcL]
          go_simp
          try with_reducible rfl
        try simp only [Act.put, List.setIfInBounds_toArray, List.set_cons_zero, List.set_cons_succ]
        refine wpAnyH_ready (rs := [4]) (by kernel_rfl) (by simp) ?_
        refine AllReadyH.cons rfl (fun K hK => ?_) ?_
        · refine step_store_as rfl rfl 166 (.tmp 7) (.tmp 13) rfl W.heap.size 0 (saL (.slice Ag 0 cg) (.slice Aa 0 ca) (v 0) pa).toArray rfl rfl (HZ3.out.there 0 _ (by show 0 + 17 ≤ 17; decide)) (by kernel_rfl) (all_oneCell_toArray saL_one) ?_
          refine after_put 0 (saL (.slice Ag 0 cg) (.slice Aa 0 ca) (v 0) pa) _ HZ3.out (by show 0 + 17 ≤ 17; decide) rfl (fun V5 hV5 hT5 => ?_)
          have HB5 : Hid (Below W.heap.size W V5) := hide (HB3.out.trans (hT5.below hs3 (fun k hk => by omega)))
          refine hK.out _ _ ?_ (fun hHeld => ?_)
          · exact B5.out.below HB5.out
          clear hK K
          try simp only [Act.put, List.setIfInBounds_toArray, List.set_cons_zero, List.set_cons_succ]
          refine wpAnyH_done (by kernel_rfl) ?_ _
          go_wp2_with fail
          go_meet
          exact ⟨W.heap.size, rfl, hV5, by omega, HB5.out⟩
        exact AllReadyH.nil
      exact AllReadyH.nil
    exact AllReadyH.nil
  case rest =>
    obtain ⟨g7, rfl, h7, hg7, hb7⟩ := hcut
    obtain ⟨V, hV⟩ : ∃ V : World, V = wc := ⟨_, rfl⟩
    rw [← hV] at h7 hb7 ⊢
    have H7 := hide h7
    have HV := hide (H1.out.below hb7)
    have HSV := hide (HS1.out.below hb7)
    have HD6 := hide (B6.out.below hb7)
    have HbV := hide (HbW.out.trans (hb7.mono (by have := Hz.out; omega)))
    clear hV h7 hb7 H1 HS1 B5 B6
    go_wp2_with fail
    go_loopw [16] (fun i wr => LstRel ss v lk lp x mf mp mr mx rs es b lv id ds nm Ab nb cb As ns cs Aa ca pa g7 w i wr) (fun i _ => ss.length - (intOf i).toNat)
    case atStart => exact ⟨0, Ag, cg, [], by omega, rfl, Hg.out, HV.out, ⟨rfl, fun q hq => by cases hq⟩, H7.out, Below.but HbV.out _, HD6.out⟩
    case round =>
      obtain ⟨j, A, c, lx, hj, rfl, hA, hAn, hF, h7, hB, hD⟩ := hrel
      have hlw := H.out.lt
      have hsw := Hss.out.2.2
      have HA := hide hA
      have HAn := hide hAn
      have HF := hide hF
      have H7j := hide h7
      have HBj := hide hB
      have HDj := hide hD
      clear hA hAn hF h7 hB hD
      have hgW : w.heap.size + 2 ≤ g7 := by have := Hz.out; omega
      by_cases hlt : j < ss.length
      · have hs : ss[j]? = some ss[j] := List.getElem?_eq_getElem hlt
        have HR := hide (BodyAt.at (Hss.out.but HBj.out (by have := Hsb.out; omega)) hs)
        have Hs := hide hs
        obtain ⟨s, hs'⟩ : ∃ s, s = ss[j] := ⟨_, rfl⟩
        rw [← hs'] at HR Hs
        clear hs hs'
        obtain ⟨site, op, m⟩ := s
        go_upto_region 5 with (first
          | ((with_reducible refine wpList_load_mid ?_ 121 (.tmp 18) ?_ sb (j * 20) ?_ (stL site op m) _ ?_ Tryz.underlying121 ?_ ?_ ?_); (focus rfl); (focus rfl); (focus rfl); (focus exact HR.out); (focus rfl); (focus kernel_rfl))
          | ((with_reducible refine wpList_store_new ?_ ?_ 121 (.tmp 9) (.tmp 19) ?_ (stL site op m) ?_ ?_ ?_ ?_ ?_ ?_); (focus rfl); (focus rfl); (focus rfl); (focus rfl); (focus rfl); (focus rfl); (focus kernel_rfl); (focus (intro u hu; revert u; simp [stL, Value.oneCell'])); intro V1 hV1 hb1; have HV1 := hide hV1; have Hb1 := hide hb1; clear hV1 hb1))
        have HAn1 := hide (HAn.out.below Hb1.out)
        have H71 := hide (H7j.out.below Hb1.out)
        have HB1 := hide (HBj.out.afterBelow Hb1.out)
        have HD1 := hide (HDj.out.below Hb1.out)
        clear HAn H7j HBj HR HDj
        go_upto_region 6 with (first
          | ((with_reducible refine wpList_load_mid ?_ 121 (.tmp 9) ?_ wr.heap.size 0 ?_ (stL site op m) _ ?_ Tryz.underlying121 ?_ ?_ ?_); (focus rfl); (focus rfl); (focus rfl); (focus exact HV1.out.whole); (focus rfl); (focus kernel_rfl))
          | ((with_reducible refine wpList_load_mid ?_ 164 (.tmp 22) ?_ g7 0 ?_ (fcL (.slice A 0 c) (.slice Aa 0 ca) (v j) (v j) pa) _ ?_ Tryz.underlying164 ?_ ?_ ?_); (focus rfl); (focus rfl); (focus rfl); (focus exact H71.out.sub 0 _ rfl); (focus rfl); (focus kernel_rfl))
          | (go_at_call 112; refine (stmt_any b As ns cs lv Hl.out op m (v j) (lks j) (v (j + 1)) (pr j) (Hgo.out.kd j _ Hs.out) id ds nm Ab nb cb site A Aa c ca HA.out pa x mf mp mr mx (lk j) (lk (j + 1)) rs es (lp j) lx _ HF.out.1 (Hgo.out.site j _ Hs.out) (Hgo.out.lk j _ Hs.out) (Hgo.out.fst j _ Hs.out) _ HAn1.out).mono ?_; rintro e w3 ⟨A2, c2, rfl, hA2, hAn2, hB2⟩; have HA2 := hide hA2; have HAn2 := hide hAn2; have HB2 := hide hB2; have H72 := hide (H71.out.but hB2 (by omega)); have HD2 := hide (HD1.out.but hB2 (by omega)); clear hA2 hAn2 hB2)
          | ((with_reducible refine wpList_store_new ?_ ?_ 166 (.tmp 10) (.tmp 24) ?_ (saL (.slice A2 0 c2) (.slice Aa 0 ca) (v (j + 1)) pa) ?_ ?_ ?_ ?_ ?_ ?_); (focus rfl); (focus rfl); (focus rfl); (focus rfl); (focus rfl); (focus rfl); (focus kernel_rfl); (focus exact saL_one); intro V4 hV4 hb4; have HV4 := hide hV4; have Hb4 := hide hb4; clear hV4 hb4))
        have HAn4 := hide (HAn2.out.below Hb4.out)
        have H74 := hide (H72.out.below Hb4.out)
        have HD4 := hide (HD2.out.below Hb4.out)
        have HB4 : Hid (But (fun k => k = x ∨ k = mp ∨ k = mx ∨ k = g7) w V4) := hide ((HB1.out.trans (HB2.out.mono (fun k hk => by omega))).afterBelow Hb4.out)
        have hg3 : g7 < w3.heap.size := H72.out.2.2
        clear HAn1 HAn2 H71 H72 HB1 HB2 HV1 Hb1
        refine wp_region_held_drew (S := fun w' => BoxAt w' w3.heap.size (saL (.slice A2 0 c2) (.slice Aa 0 ca) (v (j + 1)) pa) ∧ w'.rangeAt g7 8 deL ∧ w'.cell? ⟨g7, 16, none⟩ = some (.int .i64 0)) (by kernel_rfl) ?_ (fun hHeld => ?_)
        · exact ⟨HV4.out.drew, H74.out.drew.sub 8 _ rfl, H74.out.drew.1 16 _ rfl⟩
        refine take_as 0 (some 25) (v := ?_) rfl rfl (by kernel_rfl) (by kernel_rfl) (by kernel_rfl) (fun _ _ _ h => h) (Or.inl ⟨by rfl, ?_⟩) (by assumption) ?_
        rotate_left 1
        · intro w2 hSw
          go_simp
          try with_reducible rfl
        try simp only [Act.put, List.setIfInBounds_toArray, List.set_cons_zero, List.set_cons_succ]
        refine take_as 1 (some 26) rfl rfl (by kernel_rfl) (by kernel_rfl) (by kernel_rfl) (fun _ _ _ h => h) (yieldsIf_load_mid (by rfl) 164 (.tmp 25) rfl w3.heap.size 0 rfl (fcL (.slice A2 0 c2) (.slice Aa 0 ca) (v (j + 1)) (v (j + 1)) pa) _ (fun w2 h2 => h2.1.sub 0 _ rfl) Tryz.underlying164 rfl (by kernel_rfl)) (by assumption) ?_
        try simp only [Act.put, List.setIfInBounds_toArray, List.set_cons_zero, List.set_cons_succ]
        refine take_as 2 (some 27) (v := ?_) rfl rfl (by kernel_rfl) (by kernel_rfl) (by kernel_rfl) (fun _ _ _ h => h) (Or.inl ⟨by rfl, ?_⟩) (by assumption) ?_
        rotate_left 1
        · intro w2 hSw
          go_simp
          try with_reducible rfl
        try simp only [Act.put, List.setIfInBounds_toArray, List.set_cons_zero, List.set_cons_succ]
        refine take_as 3 (some 28) (v := ?_) rfl rfl (by kernel_rfl) (by kernel_rfl) (by kernel_rfl) (fun _ _ _ h => h) (Or.inl ⟨by rfl, ?_⟩) (by assumption) ?_
        rotate_left 1
        · intro w2 hSw
          go_simp
          try with_reducible rfl
        try simp only [Act.put, List.setIfInBounds_toArray, List.set_cons_zero, List.set_cons_succ]
        refine take_as 4 (some 29) rfl rfl (by kernel_rfl) (by kernel_rfl) (by kernel_rfl) (fun _ _ _ h => h) (yieldsIf_load_mid (by rfl) 164 (.tmp 28) rfl g7 8 rfl deL _ (fun w2 h2 => h2.2.1) Tryz.underlying164 rfl (by kernel_rfl)) (by assumption) ?_
        try simp only [Act.put, List.setIfInBounds_toArray, List.set_cons_zero, List.set_cons_succ]
        refine take_as 5 (some 30) (v := ?_) rfl rfl (by kernel_rfl) (by kernel_rfl) (by kernel_rfl) (fun _ _ _ h => h) (Or.inl ⟨by rfl, ?_⟩) (by assumption) ?_
        rotate_left 1
        · intro w2 hSw
          go_simp
          try with_reducible rfl
        try simp only [Act.put, List.setIfInBounds_toArray, List.set_cons_zero, List.set_cons_succ]
        refine take_as 6 (some 31) rfl rfl (by kernel_rfl) (by kernel_rfl) (by kernel_rfl) (fun _ _ _ h => h) (yieldsIf_load_mid (by rfl) 164 (.tmp 30) rfl w3.heap.size 8 rfl deL _ (fun w2 h2 => h2.1.sub 8 _ rfl) Tryz.underlying164 rfl (by kernel_rfl)) (by assumption) ?_
        try simp only [Act.put, List.setIfInBounds_toArray, List.set_cons_zero, List.set_cons_succ]
        refine take_as 8 (some 33) (v := ?_) rfl rfl (by kernel_rfl) (by kernel_rfl) (by kernel_rfl) (fun _ _ _ h => h) (Or.inl ⟨by rfl, ?_⟩) (by assumption) ?_
        rotate_left 1
        · intro w2 hSw
          go_simp
          try with_reducible rfl
        try simp only [Act.put, List.setIfInBounds_toArray, List.set_cons_zero, List.set_cons_succ]
        refine take_as 9 (some 34) (v := ?_) rfl rfl (by kernel_rfl) (by kernel_rfl) (by kernel_rfl) (fun _ _ _ h => h) (Or.inl ⟨by rfl, ?_⟩) (by assumption) ?_
        rotate_left 1
        · intro w2 hSw
          have hl := hSw.2.2
          go_simp
          try with_reducible rfl
        try simp only [Act.put, List.setIfInBounds_toArray, List.set_cons_zero, List.set_cons_succ]
        refine take_as 10 (some 35) (v := ?_) rfl rfl (by kernel_rfl) (by kernel_rfl) (by kernel_rfl) (fun _ _ _ h => h) (Or.inl ⟨by rfl, ?_⟩) (by assumption) ?_
        rotate_left 1
        · intro w2 hSw
          go_simp
          try with_reducible rfl
        try simp only [Act.put, List.setIfInBounds_toArray, List.set_cons_zero, List.set_cons_succ]
        refine take_as 11 (some 36) (v := ?_) rfl rfl (by kernel_rfl) (by kernel_rfl) (by kernel_rfl) (fun _ _ _ h => h) (Or.inl ⟨by rfl, ?_⟩) (by assumption) ?_
        rotate_left 1
        · intro w2 hSw
          have hl := hSw.1.1 16 _ rfl
          go_simp
          try with_reducible rfl
        try simp only [Act.put, List.setIfInBounds_toArray, List.set_cons_zero, List.set_cons_succ]
        refine take_as 12 (some 37) (v := ?_) rfl rfl (by kernel_rfl) (by kernel_rfl) (by kernel_rfl) (fun _ _ _ h => h) (Or.inl ⟨by rfl, ?_⟩) (by assumption) ?_
        rotate_left 1
        · intro w2 hSw
          go_simp
          try with_reducible rfl
        try simp only [Act.put, List.setIfInBounds_toArray, List.set_cons_zero, List.set_cons_succ]
        refine wpAnyH_ready (rs := [7]) (by kernel_rfl) (by simp) ?_
        refine AllReadyH.cons rfl (fun K hK => ?_) ?_
        · go_simp
          refine (ajoin_dead x lv _ _ _ _ _ HAn4.out.drew.anD).mono ?_
          rintro e w5 ⟨rfl, hb5⟩
          have hB5 : Below V4.heap.size V4 w5 := Below.trans (Below.refl _ V4).drew hb5
          have HAn5 := hide (HAn4.out.below hB5)
          have H75 := hide (H74.out.below hB5)
          have HV5 := hide (HV4.out.below hB5)
          have HD5 := hide (HD4.out.below hB5)
          have HB5 := hide (HB4.out.afterBelow hB5)
          clear hb5 hB5
          go_wp2_with fail
          refine hK.out _ _ ?_ (fun hHeld => ?_)
          · exact ⟨HV5.out, H75.out.sub 8 _ rfl, H75.out.1 16 _ rfl⟩
          clear hK K
          try simp only [Act.put, List.setIfInBounds_toArray, List.set_cons_zero, List.set_cons_succ]
          refine take_as 13 (some 38) (v := ?_) rfl rfl (by kernel_rfl) (by kernel_rfl) (by kernel_rfl) (fun _ _ _ h => h) (Or.inl ⟨by rfl, ?_⟩) (by assumption) ?_
          rotate_left 1
          · intro w2 hSw
            simp only [fcL, deL]
            go_simp
            try with_reducible rfl
          try simp only [Act.put, List.setIfInBounds_toArray, List.set_cons_zero, List.set_cons_succ]
          refine wpAnyH_ready (rs := [14]) (by kernel_rfl) (by simp) ?_
          refine AllReadyH.cons rfl (fun K hK => ?_) ?_
          · refine step_store_as rfl rfl 166 (.tmp 7) (.tmp 38) rfl g7 0 (saL (.slice A2 0 c2) (.slice Aa 0 ca) (v (j + 1)) pa).toArray rfl rfl (H75.out.there 0 _ (by show 0 + 17 ≤ 17; decide)) (by kernel_rfl) (all_oneCell_toArray saL_one) ?_
            refine after_put 0 (saL (.slice A2 0 c2) (.slice Aa 0 ca) (v (j + 1)) pa) _ H75.out (by show 0 + 17 ≤ 17; decide) rfl (fun V6 hV6 hT6 => ?_)
            have H76 := hide hV6
            have HAn6 := hide (HAn5.out.apart hT6 w.heap.size (fun k hk => by omega) hlw)
            have HV6 := hide (HV5.out.but hT6 (by omega))
            have HD6b := hide (HD5.out.but hT6 (by omega))
            have HB6 : Hid (But (fun k => k = x ∨ k = mp ∨ k = mx ∨ k = g7) w V6) := hide (HB5.out.trans (hT6.mono (fun k hk => .inr (.inr (.inr hk)))))
            clear hV6 hT6
            refine hK.out _ _ ?_ (fun hHeld => ?_)
            · exact ⟨HV6.out, H76.out.sub 8 _ rfl, H76.out.1 16 _ rfl⟩
            clear hK K
            try simp only [Act.put, List.setIfInBounds_toArray, List.set_cons_zero, List.set_cons_succ]
            refine wpAnyH_done (by kernel_rfl) ?_ _
            go_wp2_with fail
            go_roundw
            case rel => exact ⟨j + 1, A2, c2, (lx ++ [(.int .i64 site, .agg (fcL (.slice A 0 c) (.slice Aa 0 ca) (v j) (v j) pa).toArray)]), by omega, by go_num, HA2.out, by rw [Hgo.out.lp j _ Hs.out]; exact HAn6.out, facts_next HF.out Hs.out HA.out, H76.out, HB6.out, HD6b.out⟩
            case measure => simp [intOf]; omega
          exact AllReadyH.nil
        exact AllReadyH.nil
      · obtain rfl : j = ss.length := by omega
        go_wp2_with (first
          | ((with_reducible refine wpList_load_mid ?_ 166 (.tmp 7) ?_ g7 0 ?_ (saL (.slice A 0 c) (.slice Aa 0 ca) (v ss.length) pa) _ ?_ Tryz.underlying166 ?_ ?_ ?_); (focus rfl); (focus rfl); (focus rfl); (focus exact H7j.out.whole); (focus rfl); (focus kernel_rfl))
          | ((with_reducible refine wpList_store_in ?_ ?_ 166 (.tmp 6) (.tmp 40) ?_ (w.heap.size + 1) 0 saZ (saL (.slice A 0 c) (.slice Aa 0 ca) (v ss.length) pa) (saL (.slice A 0 c) (.slice Aa 0 ca) (v ss.length) pa) ?_ ?_ ?_ ?_ ?_ ?_ ?_ ?_); (focus rfl); (focus rfl); (focus rfl); (focus rfl); (focus rfl); (focus exact HDj.out); (focus (show 0 + 17 ≤ 17; decide)); (focus rfl); (focus kernel_rfl); (focus exact saL_one); intro V8 hV8 hT8; have HV8 := hide hV8; have HT8 := hide hT8; clear hV8 hT8))
        have fA := HAn.out.apart HT8.out w.heap.size (fun k hk => by omega) hlw
        have fT : But (fun k => k = x ∨ k = mp ∨ k = mx) w V8 := (cut_new HBj.out (by omega)).thenNew HT8.out (fun k hk => .inr (by omega))
        have fF := HF.out
        rw [List.take_length] at fF
        exact bodyPost_ret (res_box (cs := (saL (.slice A 0 c) (.slice Aa 0 ca) (v ss.length) pa)) rfl rfl HV8.out Tryz.underlying166 rfl (by kernel_rfl)) rfl ⟨A, c, lx, rfl, HA.out, fA, fF, fT⟩

end Go.Proofs.YthhfakkfdohcpaaGreat
