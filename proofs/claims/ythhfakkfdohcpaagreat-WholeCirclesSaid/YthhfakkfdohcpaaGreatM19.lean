/- A run of the analysis over one definition of the examples. No condition. -/
import Derived.Test.YthhfakkfdohcpaaGreatM18
import Derived.Test.YthhfakkfdohcpaaGreatM11
import Derived.Test.YthhfakkfdohcpaaGreatM13
namespace Go.Proofs.YthhfakkfdohcpaaGreat
open Go.RowKit Go.ChangeMaps Go.MapKept
/-- What a run gives. -/
def RunTo (w : World) (id lk : Int) (pa1 pb1 ps1 : Int) (e : Ending) (w' : World) : Prop :=
  ∃ Af nf cf lo gs cq gp cp, e = .returned (.tuple #[.agg (pfL id (.slice Af nf cf) (smL id lk lo (.slice (some ⟨gs, 0, none⟩) 1 cq) 4) (.slice none 0 0) (.slice (some ⟨gp, 0, none⟩) 1 cp) (.slice none 0 0)).toArray, .int .i64 0]) ∧ BoxAt w' gp [.int .i64 pa1, .int .i64 pb1, .int .i64 ps1] ∧ w.heap.size ≤ gp ∧ Below w.heap.size w w'
/-- A struct is stored behind four new maps. -/
theorem wpList_store_maps {ops : Array Oper} {rest : List Oper} {o : Oper} {a : Act} {w : World} {Q : Exit → Act → World → Prop} (hg : o.guard = none) (hd : o.dst = none) (ty : TypeId) (x y : Operand) (ho : o.op = .store ty x y)
    (g off : Nat) (vs cs vs' : List Value) (hx : a.eval x = .pointer (some ⟨g, off, none⟩)) (hy : a.eval y = .agg cs.toArray) (B : BoxAt w g vs) (hl : off + cs.length ≤ vs.length) (e : vs' = vs.take off ++ cs ++ vs.drop (off + cs.length)) (hi : (Tryz.prog.info? ty).map (·.size) = some cs.toArray.size) (h1 : ∀ v ∈ cs, v.oneCell' = true)
    (h : ∀ V, BoxAt V g vs' → MapAt V w.heap.size [] → MapAt V (w.heap.size + 1) [] → MapAt V (w.heap.size + 1 + 1) [] → MapAt V (w.heap.size + 1 + 1 + 1) [] → But (fun k => k = g) w V → wpList Tryz.prog ops Q rest a V) : wpList Tryz.prog ops Q (o :: rest) a ((((w.alloc (.map #[] 0)).alloc (.map #[] 0)).alloc (.map #[] 0)).alloc (.map #[] 0)) := by
  have hlt := B.2.2
  have s1 := World.size_alloc w (.map #[] 0)
  have s2 := World.size_alloc (w.alloc (.map #[] 0)) (.map #[] 0)
  have s3 := World.size_alloc ((w.alloc (.map #[] 0)).alloc (.map #[] 0)) (.map #[] 0)
  have m0 := MapAt.new w
  have m1 := MapAt.new (w.alloc (.map #[] 0))
  have m2 := MapAt.new ((w.alloc (.map #[] 0)).alloc (.map #[] 0))
  have m3 := MapAt.new (((w.alloc (.map #[] 0)).alloc (.map #[] 0)).alloc (.map #[] 0))
  rw [s1] at m1 s2
  rw [s2] at m2 s3
  rw [s3] at m3
  have al : ∀ W : World, Below W.heap.size W (W.alloc (.map #[] 0)) := fun W => (Below.refl _ W).alloc (Nat.le_refl _) _
  have n0 := ((m0.below (al _)).below (al _)).below (al _)
  have n1 := (m1.below (al _)).below (al _)
  have n2 := m2.below (al _)
  have hb : Below w.heap.size w ((((w.alloc (.map #[] 0)).alloc (.map #[] 0)).alloc (.map #[] 0)).alloc (.map #[] 0)) := ((((Below.refl _ w).alloc (Nat.le_refl _) _).alloc (by omega) _).alloc (by omega) _).alloc (by omega) _
  refine wpList_store_in hg hd ty x y ho g off vs cs vs' hx hy (B.below hb) hl e hi h1 fun V hV hT => ?_
  exact h V hV (n0.but hT (by omega)) (n1.but hT (by omega)) (n2.but hT (by omega)) (m3.but hT (by omega)) ((Below.but hb _).trans hT)
/-- The cells of an analysis before its maps are laid. -/
def anZ (b : Nat → Nat) (lv : Int) (d : Dn) (su : Value) : List Value := [.map none, .map none, .map none, .int .i64 0, .slice none 0 0, .slice none 0 0, .map none] ++ pgL b ++ [.int .i64 lv, .slice none 0 0] ++ dnL d ++ [su, .int .i64 0]
def foL (mf mp mr mx : Nat) : List Value := [.map (some mf), .map (some mp), .map (some mr), .int .i64 0, .slice none 0 0, .slice none 0 0, .map (some mx)]
theorem foL_one {mf mp mr mx : Nat} : ∀ u ∈ foL mf mp mr mx, u.oneCell' = true := by
  intro u hu
  simp only [foL, List.mem_cons, List.not_mem_nil, or_false] at hu
  rcases hu with rfl | rfl | rfl | rfl | rfl | rfl | rfl <;> rfl
set_option maxRecDepth 100000 in
set_option maxHeartbeats 16000000 in
theorem run_any (b : Nat → Nat) (d : Dn) (ss : List St) (hss : ∀ s ∈ ss, s.2.1 = 16 ∨ s.2.1 = 17) (hlen : ss.length = 4) (hnd : ∀ j s, ss[j]? = some s → s.1 ∉ (ss.take j).map (·.1)) (v lks lk : Nat → Int) (pr : Nat → Option (Int × Int)) (lp : Nat → List (Value × Value)) (hgo : Goes ss v lks lk pr lp) (hv0 : v 0 = 0) (hv4 : v ss.length = 0) (hlk0 : lk 0 = 0) (hlp0 : lp 0 = [])
    (pa1 pb1 ps1 : Int) (hlp4 : lp ss.length = [(.agg #[.int .i64 pa1, .int .i64 pb1, .int .i64 ps1], .bool true)]) (As : Option Addr) (ns cs : Nat) (lv : Int) (hl : Lev lv) (w : World) (hfind : ∀ W, Below w.heap.size w W → Calls Tryz.prog 69 #[.agg (pgL b).toArray, .int .i64 d.id] W fun e w' => e = .returned (.tuple #[.agg (dnL d).toArray, .bool true]) ∧ Below W.heap.size W w') (hB : BodyAt w d.sb ss) :
    Calls Tryz.prog 36 #[.agg (pgL b).toArray, .agg ([.int .i64 lv, .slice none 0 0]).toArray, .int .i64 d.id, .slice As ns cs] w (RunTo w d.id (lk ss.length) pa1 pb1 ps1) := by
  rw [hlen] at hv4 hlp4 ⊢
  have Hf := hide hfind; clear hfind
  have HB := hide hB; clear hB
  have Hgo := hide hgo; clear hgo
  have Hss := hide hss; clear hss
  have Hnd := hide hnd; clear hnd
  have hk0 : ∀ W, (Instr.makeMap 152 none).run Tryz.prog W = .ok (.map (some W.heap.size)) (W.alloc (.map #[] 0)) := fun _ => by kernel_rfl
  have hk1 : ∀ W, (Instr.makeMap 153 none).run Tryz.prog W = .ok (.map (some W.heap.size)) (W.alloc (.map #[] 0)) := fun _ => by kernel_rfl
  have hk2 : ∀ W, (Instr.makeMap 92 none).run Tryz.prog W = .ok (.map (some W.heap.size)) (W.alloc (.map #[] 0)) := fun _ => by kernel_rfl
  have hk3 : ∀ W, (Instr.makeMap 155 none).run Tryz.prog W = .ok (.map (some W.heap.size)) (W.alloc (.map #[] 0)) := fun _ => by kernel_rfl
  go_enter Tryz.func36, Tryz.ntmps36
  simp only [pgL]
  go_upto_region 1 with (fail)
  obtain ⟨W, hW⟩ : ∃ V, V = ((w.alloc (.cells (pgL b).toArray 48)).alloc (.cells ([.int .i64 lv, .slice none 0 0]).toArray 52)).alloc (.cells pfZ.toArray 61) := ⟨_, rfl⟩
  have hb3 := boxes3 w _ _ _ _ _ _ W hW
  have hW' := hW
  simp only [pgL, pfZ, pfL, smZ, List.cons_append, List.nil_append] at hW'
  rw [← hW']
  clear hW hW'
  obtain ⟨b4, b5, b8, hz, hbW⟩ := hb3
  have H4 := hide b4
  have H5 := hide b5
  have H8 := hide b8
  have HbW := hide hbW
  have Hz := hide hz
  replace HB := hide (HB.out.below hbW)
  have HsB := hide HB.out.2.2
  clear b4 b5 b8 hbW hz
  go_upto_region 2 with (first
    | ((with_reducible refine wpList_load_mid ?_ 48 (.tmp 4) ?_ (w.heap.size) (0) ?_ (pgL b) _ ?_ Tryz.underlying48 ?_ ?_ ?_); (focus rfl); (focus rfl); (focus rfl); (focus exact H4.out.whole); (focus rfl); (focus kernel_rfl))
    | (go_at_call 69; refine (Hf.out _ HbW.out).mono ?_; rintro e w1 ⟨rfl, hb1⟩; replace H4 := hide (H4.out.below hb1); replace H5 := hide (H5.out.below hb1); replace H8 := hide (H8.out.below hb1); replace HB := hide (HB.out.below hb1);  have Hb1 := hide (HbW.out.trans (hb1.mono HbW.out.size)); have Hz1 := hide hb1.size; clear hb1)
    | ((with_reducible refine wpList_store_new ?_ ?_ 83 (.tmp 10) (.tmp 17) ?_ (dnL d) ?_ ?_ ?_ ?_ ?_ ?_); (focus rfl); (focus rfl); (focus rfl); (focus rfl); (focus rfl); (focus rfl); (focus kernel_rfl); (focus exact dnL_one); intro V10 hV10 hbV10; have HV10 := hide hV10; have HbV10 := hide hbV10; clear hV10 hbV10))
  obtain ⟨g10, hg10⟩ : ∃ q, q = w1.heap.size := ⟨_, rfl⟩
  rw [← hg10] at HV10 ⊢
  replace H4 := hide (H4.out.below HbV10.out)
  replace H5 := hide (H5.out.below HbV10.out)
  replace H8 := hide (H8.out.below HbV10.out)
  replace HB := hide (HB.out.below HbV10.out)

  have HbW2 : Hid (Below w.heap.size w V10) := hide (Hb1.out.trans (HbV10.out.mono Hb1.out.size))
  have Hg10 : Hid (w.heap.size + 3 ≤ g10 ∧ g10 < V10.heap.size) := hide ⟨by have := Hz.out; have := Hz1.out; omega, HV10.out.2.2⟩
  clear hg10 HbV10 Hb1 Hz1 HbW
  go_upto_region 5 with (first
    | ((with_reducible refine wpList_load_mid ?_ 48 (.tmp 4) ?_ (w.heap.size) (0) ?_ (pgL b) _ ?_ Tryz.underlying48 ?_ ?_ ?_); (focus rfl); (focus rfl); (focus rfl); (focus exact H4.out.whole); (focus rfl); (focus kernel_rfl); simp only [pgL])
    | ((with_reducible refine wpList_load_mid ?_ 52 (.tmp 5) ?_ ((w.heap.size + 1)) (0) ?_ [.int .i64 lv, .slice none 0 0] _ ?_ Tryz.underlying52 ?_ ?_ ?_); (focus rfl); (focus rfl); (focus rfl); (focus exact H5.out.whole); (focus rfl); (focus kernel_rfl))
    | ((with_reducible refine wpList_load_mid ?_ 83 (.tmp 10) ?_ (g10) (0) ?_ (dnL d) _ ?_ Tryz.underlying83 ?_ ?_ ?_); (focus rfl); (focus rfl); (focus rfl); (focus exact HV10.out.whole); (focus rfl); (focus kernel_rfl); simp only [dnL, dfL]))
  obtain ⟨X, hX⟩ : ∃ V, V = V10.alloc (.cells (anZ b lv d (.slice As ns cs)).toArray 159) := ⟨_, rfl⟩
  have hx := BoxAt.new V10 (anZ b lv d (.slice As ns cs)) 159
  have hbx : Below V10.heap.size V10 (V10.alloc (.cells (anZ b lv d (.slice As ns cs)).toArray 159)) := (Below.refl _ V10).alloc (Nat.le_refl _) _
  rw [← hX] at hx hbx
  simp only [anZ, pgL, dnL, dfL, List.cons_append, List.nil_append] at hX
  rw [← hX]
  clear hX
  have HX := hide hx
  obtain ⟨x, hxe⟩ : ∃ q, q = V10.heap.size := ⟨_, rfl⟩
  rw [← hxe] at HX ⊢
  have Hgx : Hid (g10 < x ∧ w.heap.size + 3 ≤ x ∧ d.sb < x ∧ w.heap.size + 3 ≤ g10) := hide (by have h1 := Hg10.out; have h2 := HB.out.2.2; omega)
  replace H4 := hide (H4.out.below hbx)
  replace H5 := hide (H5.out.below hbx)
  replace H8 := hide (H8.out.below hbx)
  replace HB := hide (HB.out.below hbx)
  replace HV10 := hide (HV10.out.below hbx)

  have HbX : Hid (Below w.heap.size w X) := hide (HbW2.out.trans (hbx.mono HbW2.out.size))
  clear hxe hx hbx Hg10
  go_upto_region 6 with (first
    | ((with_reducible refine wpList_store_maps ?_ ?_ 157 (.tmp 35) (.tmp 33) ?_ x 0 (anZ b lv d (.slice As ns cs)) (foL X.heap.size (X.heap.size + 1) (X.heap.size + 1 + 1) (X.heap.size + 1 + 1 + 1)) (anL X.heap.size (X.heap.size + 1) (X.heap.size + 1 + 1) 0 (.slice none 0 0) (.slice none 0 0) (X.heap.size + 1 + 1 + 1) b lv d.id d.ds (.string d.nm) (.slice (some ⟨d.sb, 0, none⟩) 4 4) (.slice As ns cs)) ?_ ?_ ?_ ?_ ?_ ?_ ?_ ?_); (focus rfl); (focus rfl); (focus rfl); (focus rfl); (focus rfl); (focus exact HX.out); (focus (show 0 + 7 ≤ 33; decide)); (focus rfl); (focus kernel_rfl); (focus exact foL_one); intro Y hY hm0 hm1 hm2 hm3 hT))
  have HxX : Hid (x < X.heap.size) := hide HX.out.2.2
  have HA : Hid (An Y x X.heap.size (X.heap.size + 1) (X.heap.size + 1 + 1) (X.heap.size + 1 + 1 + 1) 0 (.slice none 0 0) (.slice none 0 0) b lv d.id d.ds (.string d.nm) (.slice (some ⟨d.sb, 0, none⟩) 4 4) (.slice As ns cs) [] []) := hide
    { box := hY, fnd := hm0, prs := hm1, rls := hm2, fct := hm3, d1 := by omega, d2 := by omega, d3 := by omega, d4 := by omega, d5 := by omega, e1 := by have := HxX.out; omega, e2 := by have := HxX.out; omega, e3 := by have := HxX.out; omega, e4 := by have := HxX.out; omega }
  have HW : Hid (Below w.heap.size w Y) := hide (HbX.out.trans (hT.below HbX.out.size (fun k hk => by have := Hgx.out; omega)))
  replace H8 := hide (BoxAt.but H8.out hT (by have := Hgx.out; omega))
  replace HV10 := hide (BoxAt.but HV10.out hT (by have := Hgx.out; omega))
  replace H5 := hide (BoxAt.but H5.out hT (by have := Hgx.out; omega))
  replace HB := hide (BoxAt.but HB.out hT (by have := Hgx.out; omega))

  clear hY hm0 hm1 hm2 hm3 hT HX HbX HbW2 H4
  refine wp_region_held_drew (S := fun w' => BoxAt w' g10 (dnL d) ∧ BoxAt w' (w.heap.size + 1) [.int .i64 lv, .slice none 0 0]) (by kernel_rfl) ?_ (fun hHeld => ?_)
  · exact ⟨HV10.out.below (Below.refl _ _).drew, H5.out.below (Below.refl _ _).drew⟩
  generalize hw0 : World.drew Y = w0 at hHeld ⊢
  have HB0 : Hid (Below Y.heap.size Y w0) := hide (by rw [← hw0]; exact (Below.refl _ Y).drew)
  replace HA := hide (HA.out.below HB0.out)
  replace H8 := hide (H8.out.below HB0.out)
  replace HV10 := hide (HV10.out.below HB0.out)
  replace H5 := hide (H5.out.below HB0.out)
  replace HB := hide (HB.out.below HB0.out)
  replace HW := hide (HW.out.trans (HB0.out.mono HW.out.size))
  clear hw0
  refine take_as 0 (some 36) (v := ?_) rfl rfl (by kernel_rfl) (by kernel_rfl) (by kernel_rfl) (fun _ _ _ h => h) (Or.inl ⟨by rfl, ?_⟩) (by assumption) ?_
  rotate_left 1
  · intro w2 hSw
    go_simp
    try with_reducible rfl
  try simp only [Act.put, List.setIfInBounds_toArray, List.set_cons_zero, List.set_cons_succ]
  refine take_as 1 (some 37) (v := ?_) rfl rfl (by kernel_rfl) (by kernel_rfl) (by kernel_rfl) (fun _ _ _ h => h) (Or.inl ⟨by rfl, ?_⟩) (by assumption) ?_
  rotate_left 1
  · intro w2 hSw
    go_simp
    try with_reducible rfl
  try simp only [Act.put, List.setIfInBounds_toArray, List.set_cons_zero, List.set_cons_succ]
  refine take_as 2 (some 38) (v := ?_) rfl rfl (by kernel_rfl) (by kernel_rfl) (by kernel_rfl) (fun _ _ _ h => h) (Or.inl ⟨by rfl, ?_⟩) (by assumption) ?_
  rotate_left 1
  · intro w2 hSw
    go_simp
    try with_reducible rfl
  try simp only [Act.put, List.setIfInBounds_toArray, List.set_cons_zero, List.set_cons_succ]
  refine take_as 3 (some 39) (v := ?_) rfl rfl (by kernel_rfl) (by kernel_rfl) (by kernel_rfl) (fun _ _ _ h => h) (Or.inl ⟨by rfl, ?_⟩) (by assumption) ?_
  rotate_left 1
  · intro w2 hSw
    have hl := hSw.1.1 11 _ rfl
    go_simp
    try with_reducible rfl
  try simp only [Act.put, List.setIfInBounds_toArray, List.set_cons_zero, List.set_cons_succ]
  refine take_as 4 (some 40) rfl rfl (by kernel_rfl) (by kernel_rfl) (by kernel_rfl) (fun _ _ _ h => h) (yieldsIf_load_mid (by rfl) 83 (.tmp 10) rfl g10 0 rfl (dnL d) _ (fun w2 hSw => hSw.1.whole) Tryz.underlying83 rfl (by kernel_rfl)) (by assumption) ?_
  try simp only [Act.put, List.setIfInBounds_toArray, List.set_cons_zero, List.set_cons_succ]
  refine take_as 5 (some 41) (v := ?_) rfl rfl (by kernel_rfl) (by kernel_rfl) (by kernel_rfl) (fun _ _ _ h => h) (Or.inl ⟨by rfl, ?_⟩) (by assumption) ?_
  rotate_left 1
  · intro w2 hSw
    go_simp
    try with_reducible rfl
  try simp only [Act.put, List.setIfInBounds_toArray, List.set_cons_zero, List.set_cons_succ]
  refine take_as 6 (some 42) (v := ?_) rfl rfl (by kernel_rfl) (by kernel_rfl) (by kernel_rfl) (fun _ _ _ h => h) (Or.inl ⟨by rfl, ?_⟩) (by assumption) ?_
  rotate_left 1
  · intro w2 hSw
    have hl := hSw.2.1 0 _ rfl
    go_simp
    try with_reducible rfl
  try simp only [Act.put, List.setIfInBounds_toArray, List.set_cons_zero, List.set_cons_succ]
  refine wpAnyH_ready (rs := [7]) (by kernel_rfl) (by simp) ?_
  refine AllReadyH.cons rfl (fun K hK => ?_) ?_
  · go_simp
    refine (start_any lv hl d.id d.ds d.nm (some ⟨d.sb, 0, none⟩) 4 4 _).mono ?_
    rintro e w1 ⟨A, c, Aa, ca, rfl, hA, hbn⟩
    have HAc := hide hA
    replace HA := hide (HA.out.below hbn)
    replace H8 := hide (H8.out.below hbn)
    replace HV10 := hide (HV10.out.below hbn)
    replace H5 := hide (H5.out.below hbn)
    replace HB := hide (HB.out.below hbn)
    replace HW := hide (HW.out.trans (hbn.mono HW.out.size))
    have HB1 := trivial
    clear hA hbn
    go_wp2_with fail
    refine hK.out _ _ ?_ (fun hHeld => ?_)
    · exact ⟨HV10.out, H5.out⟩
    clear hK K
    try simp only [Act.put, List.setIfInBounds_toArray, List.set_cons_zero, List.set_cons_succ]
    refine wpAnyH_ready (rs := [8]) (by kernel_rfl) (by simp) ?_
    refine AllReadyH.cons rfl (fun K hK => ?_) ?_
    · go_simp
      have hL := list_any ss v lks lk pr lp Hgo.out (by omega) d.sb b As ns cs lv hl d.id d.ds d.nm (some ⟨d.sb, 0, none⟩) 4 4 A Aa c ca HAc.out 1 x X.heap.size (X.heap.size + 1) (X.heap.size + 1 + 1) (X.heap.size + 1 + 1 + 1) (.slice none 0 0) (.slice none 0 0) w1 (by rw [hlk0, hlp0]; exact HA.out) HB.out (by have h1 := Hgx.out; have h2 := HxX.out; omega)
      rw [hlen, hv0, hv4, hlp4] at hL
      refine hL.mono ?_
      rintro e w2 ⟨A1, c1, lx, rfl, -, hA, hF, hT⟩
      replace HA := hide hA
      have HF := hide hF
      replace H8 := hide (BoxAt.but H8.out hT (by have h1 := Hgx.out; have h2 := HxX.out; omega))
      replace HV10 := hide (BoxAt.but HV10.out hT (by have h1 := Hgx.out; have h2 := HxX.out; omega))
      replace H5 := hide (BoxAt.but H5.out hT (by have h1 := Hgx.out; have h2 := HxX.out; omega))
      replace HB := hide (BoxAt.but HB.out hT (by have h1 := Hgx.out; have h2 := HxX.out; omega))
      replace HW := hide (HW.out.trans (hT.below HW.out.size (fun k hk => by have h1 := Hgx.out; have h2 := HxX.out; omega)))
      have HB2 := trivial
      clear hA hF hT hL
      go_wp2_with fail
      refine hK.out _ _ ?_ (fun hHeld => ?_)
      · exact ⟨HV10.out, H5.out⟩
      clear hK K
      try simp only [Act.put, List.setIfInBounds_toArray, List.set_cons_zero, List.set_cons_succ]
      refine wpAnyH_ready (rs := [9]) (by kernel_rfl) (by simp) ?_
      refine AllReadyH.cons rfl (fun K hK => ?_) ?_
      · go_simp
        have hL := proof_any ss Hss.out (by omega) Hnd.out d.sb b As ns cs lv d.id d.ds d.nm A1 Aa c1 ca 1 (lk 4) x X.heap.size (X.heap.size + 1) (X.heap.size + 1 + 1) (X.heap.size + 1 + 1 + 1) pa1 pb1 ps1 lx w2 (by rw [hlen]; exact HA.out) HB.out (by have h1 := Hgx.out; omega) HF.out
        rw [hlen] at hL
        refine hL.mono ?_
        rintro e w3 ⟨Af, nf, cf, lo, gs, cq, gp, cp, rfl, hbp, hgp, hT⟩
        have HGP := hide hbp
        have HgP : Hid (w.heap.size + 3 ≤ gp) := hide (by have h1 := Hgx.out; have h2 := HxX.out; have h3 := H8.out.2.2; have h4 := HA.out.lt; omega)
        replace H8 := hide (BoxAt.but H8.out hT (by have h1 := Hgx.out; omega))
        replace HV10 := hide (BoxAt.but HV10.out hT (by have h1 := Hgx.out; omega))
        replace H5 := hide (BoxAt.but H5.out hT (by have h1 := Hgx.out; omega))
        replace HW := hide (HW.out.trans (hT.below HW.out.size (fun k hk => by have h1 := Hgx.out; omega)))
        have HB3 := trivial
        clear hbp hgp hT hL HA HB HF
        go_wp2_with fail
        refine hK.out _ _ ?_ (fun hHeld => ?_)
        · exact ⟨HV10.out, H5.out⟩
        clear hK K
        try simp only [Act.put, List.setIfInBounds_toArray, List.set_cons_zero, List.set_cons_succ]
        refine wpAnyH_ready (rs := [10]) (by kernel_rfl) (by simp) ?_
        refine AllReadyH.cons rfl (fun K hK => ?_) ?_
        · refine step_store_as rfl rfl 61 (.tmp 8) (.tmp 45) rfl (w.heap.size + 1 + 1) 0 (pfL d.id (.slice Af nf cf) (smL d.id (lk 4) lo (.slice (some ⟨gs, 0, none⟩) 1 cq) 4) (.slice none 0 0) (.slice (some ⟨gp, 0, none⟩) 1 cp) (.slice none 0 0)).toArray rfl rfl (H8.out.there 0 _ (by show 0 + 16 ≤ 16; decide)) (by kernel_rfl) (all_oneCell_toArray pfL_one) ?_
          refine after_put 0 (pfL d.id (.slice Af nf cf) (smL d.id (lk 4) lo (.slice (some ⟨gs, 0, none⟩) 1 cq) 4) (.slice none 0 0) (.slice (some ⟨gp, 0, none⟩) 1 cp) (.slice none 0 0)) _ H8.out (by show 0 + 16 ≤ 16; decide) rfl (fun w4 hV hT => ?_)
          replace H8 := hide hV
          replace HV10 := hide (BoxAt.but HV10.out hT (by have h1 := Hgx.out; have h2 := HgP.out; omega))
          replace H5 := hide (BoxAt.but H5.out hT (by have h1 := Hgx.out; have h2 := HgP.out; omega))
          replace HGP := hide (BoxAt.but HGP.out hT (by have h1 := Hgx.out; have h2 := HgP.out; omega))
          replace HW := hide (HW.out.trans (hT.below HW.out.size (fun k hk => by omega)))
          have HB4 := trivial
          clear hV hT
          refine hK.out _ _ ?_ (fun hHeld => ?_)
          · exact ⟨HV10.out, H5.out⟩
          clear hK K
          try simp only [Act.put, List.setIfInBounds_toArray, List.set_cons_zero, List.set_cons_succ]
          refine take_as 11 (some 9) (v := ?_) rfl rfl (by kernel_rfl) (by kernel_rfl) (by kernel_rfl) (fun _ _ _ h => h) (Or.inl ⟨by rfl, ?_⟩) (by assumption) ?_
          rotate_left 1
          · intro w2 hSw
            go_simp
            try with_reducible rfl
          try simp only [Act.put, List.setIfInBounds_toArray, List.set_cons_zero, List.set_cons_succ]
          refine wpAnyH_done (by kernel_rfl) ?_ _
          go_wp2_with (first | (have h8 := H8; clear h8; exact bodyPost_ret (res_box2 (cs := (pfL d.id (.slice Af nf cf) (smL d.id (lk 4) lo (.slice (some ⟨gs, 0, none⟩) 1 cq) 4) (.slice none 0 0) (.slice (some ⟨gp, 0, none⟩) 1 cp) (.slice none 0 0))) rfl rfl rfl H8.out Tryz.underlying61 rfl (by kernel_rfl)) rfl ⟨Af, nf, cf, lo, gs, cq, gp, cp, rfl, HGP.out, by have := HgP.out; omega, HW.out⟩))
        exact AllReadyH.nil
      exact AllReadyH.nil
    exact AllReadyH.nil
  exact AllReadyH.nil

end Go.Proofs.YthhfakkfdohcpaaGreat
/- The search for a proof among at most two. No condition. -/
namespace Go.Proofs.YthhfakkfdohcpaaGreat
open Go.RowKit Go.ChangeMaps Go.MapKept
/-- A load of many cells under a guard that holds. -/
theorem wpList_load_guard {P0 : Program} (hP : P0 = Tryz.prog) {ops : Array Oper} {rest : List Oper} {op : Oper} {a : Act} {w : World} {Q : Exit → Act → World → Prop} (hw : Region.wanted op (yielded ops a.tmps) = true) (ty : TypeId) (x : Operand) (ho : op.op = .load ty x)
    (b o : Nat) (hx : a.eval x = .pointer (some ⟨b, o, none⟩)) (cs : List Value) (d : TypeDesc) (hc : w.rangeAt b o cs)
    (hu : Tryz.prog.underlying ty = some d) (hd : d.isRow = true) (hi : (Tryz.prog.info? ty).map (·.size) = some cs.length)
    (h : wpList P0 ops Q rest (a.put op.dst (.agg cs.toArray)) w) : wpList P0 ops Q (op :: rest) a w := by
  subst hP
  refine wpList_step fun K hK => ?_
  rw [if_pos hw]
  exact wp_load_mid ty x ho b o hx cs d hc hu hd hi (hK _ _ h)
/-- What a proof holds. -/
structure Pv where
  id : Int
  lk : Int
  lo : Int
  Af : Option Addr
  nf : Nat
  cf : Nat
  gs : Nat
  cq : Nat
  gp : Nat
  cp : Nat
def pvL (p : Pv) : List Value := pfL p.id (.slice p.Af p.nf p.cf) (smL p.id p.lk p.lo (.slice (some ⟨p.gs, 0, none⟩) 1 p.cq) 4) (.slice none 0 0) (.slice (some ⟨p.gp, 0, none⟩) 1 p.cp) (.slice none 0 0)
theorem pvL_one (p : Pv) : ∀ u ∈ pvL p, u.oneCell' = true := pfL_one
set_option maxRecDepth 100000 in
set_option maxHeartbeats 4000000 in
theorem cmpP (p : Pv) (k : Int) (w : World) : Calls Tryz.prog 42 #[.agg (pvL p).toArray, .int .i64 k] w fun e w' => e = .returned (.int .i64 (Lib.compareInt p.id k)) ∧ Below w.heap.size w w' := by
  go_enter Tryz.func42, Tryz.ntmps42
  simp only [pvL, pfL, smL, List.cons_append, List.nil_append]
  go_upto_region 1 with (fail)
  obtain ⟨W, hW⟩ : ∃ V, V = w.alloc (.cells (pvL p).toArray 61) := ⟨_, rfl⟩
  have hb := BoxAt.new w (pvL p) 61
  have hbW : Below w.heap.size w (w.alloc (.cells (pvL p).toArray 61)) := (Below.refl _ w).alloc (Nat.le_refl _) _
  rw [← hW] at hb hbW
  simp only [pvL, pfL, smL, List.cons_append, List.nil_append] at hW
  rw [← hW]
  clear hW
  have h0 : W.cell? ⟨w.heap.size, 0, none⟩ = some (.int .i64 p.id) := hb.1 0 _ rfl
  go_wp2_with (go_at_call 33; refine (Tryz.cmp_Compare_int _ _ _).mono ?_; rintro e w1 ⟨rfl, rfl⟩)
  go_ret
  exact ⟨rfl, hbW⟩
set_option maxRecDepth 100000 in
set_option maxHeartbeats 4000000 in
theorem cmpC (p : Pv) (k : Int) (w : World) : Calls Tryz.prog 39 #[.agg (pvL p).toArray, .int .i64 k] w fun e w' => e = .returned (.int .i64 (Lib.compareInt p.id k)) ∧ Below w.heap.size w w' := by
  go_enter Tryz.func39, Tryz.ntmps39
  simp only [pvL, pfL, smL, List.cons_append, List.nil_append]
  go_upto_region 1 with (fail)
  obtain ⟨W, hW⟩ : ∃ V, V = w.alloc (.cells (pvL p).toArray 61) := ⟨_, rfl⟩
  have hb := BoxAt.new w (pvL p) 61
  have hbW : Below w.heap.size w (w.alloc (.cells (pvL p).toArray 61)) := (Below.refl _ w).alloc (Nat.le_refl _) _
  rw [← hW] at hb hbW
  simp only [pvL, pfL, smL, List.cons_append, List.nil_append] at hW
  rw [← hW]
  clear hW
  have h0 : W.cell? ⟨w.heap.size, 0, none⟩ = some (.int .i64 p.id) := hb.1 0 _ rfl
  go_wp2_with (go_at_call 33; refine (Tryz.cmp_Compare_int _ _ _).mono ?_; rintro e w1 ⟨rfl, rfl⟩)
  go_ret
  exact ⟨rfl, hbW⟩
set_option maxRecDepth 100000 in
set_option maxHeartbeats 4000000 in
theorem bs0 (f : Value) (k : Int) (w : World) : Calls Tryz.prog 38 #[.slice none 0 0, .int .i64 k, f] w fun e w' => e = .returned (.tuple #[.int .i64 0, .bool false]) ∧ w = w' := by
  go_enter Tryz.func38, Tryz.ntmps38
  go_wp2
  go_rounds 1
  go_ret2
  exact ⟨rfl, rfl⟩
set_option maxRecDepth 100000 in
set_option maxHeartbeats 4000000 in
theorem bs1P (p : Pv) (hp : p.id = 1) (k : Int) (hk : k = 1 ∨ k = 2) (g c : Nat) (w : World) (hb : BoxAt w g (pvL p)) : Calls Tryz.prog 38 #[.slice (some ⟨g, 0, none⟩) 1 c, .int .i64 k, .func (.func 42) #[] #[]] w fun e w' => e = .returned (.tuple #[.int .i64 (k - 1), .bool (k == 1)]) ∧ Below w.heap.size w w' := by
  have H := hide hb; clear hb
  have c11 : Lib.compareInt 1 1 = 0 := rfl
  have c12 : Lib.compareInt 1 2 = -1 := rfl
  rcases hk with rfl | rfl
  all_goals
    go_enter Tryz.func38, Tryz.ntmps38
    have HW : Hid (Below w.heap.size w w) := hide (Below.refl _ _)
    go_wp2_with fail
    refine wp_loop_rounds 3 ?_
    rw [rounds_succ]
    go_wp2_with (first
      | ((with_reducible refine wpList_load_mid ?_ 61 (.tmp 27) ?_ (g) (0) ?_ (pvL p) _ ?_ Tryz.underlying61 ?_ ?_ ?_); (focus rfl); (focus rfl); (focus rfl); (focus exact H.out.whole); (focus rfl); (focus kernel_rfl))
      | (go_at_call 42; refine (cmpP _ _ _).mono ?_; rintro e wc ⟨rfl, hb1⟩; rw [hp]; replace H := hide (H.out.below hb1); replace HW := hide (HW.out.trans (hb1.mono HW.out.size)); clear hb1))
    rw [rounds_succ]
    go_wp2_with (first
      | ((with_reducible refine wpList_load_guard ?_ ?_ 61 (.tmp 43) ?_ (g) (0) ?_ (pvL p) _ ?_ Tryz.underlying61 ?_ ?_ ?_); (focus rfl); (focus rfl); (focus rfl); (focus rfl); (focus exact H.out.whole); (focus rfl); (focus kernel_rfl))
      | (go_at_call 42; refine (cmpP _ _ _).mono ?_; rintro e wc ⟨rfl, hb1⟩; rw [hp]; replace H := hide (H.out.below hb1); replace HW := hide (HW.out.trans (hb1.mono HW.out.size)); clear hb1))
    go_ret2
    exact ⟨rfl, HW.out⟩
set_option maxRecDepth 100000 in
set_option maxHeartbeats 4000000 in
theorem bs1C (p : Pv) (hp : p.id = 1) (k : Int) (hk : k = 1 ∨ k = 2) (g c : Nat) (w : World) (hb : BoxAt w g (pvL p)) : Calls Tryz.prog 38 #[.slice (some ⟨g, 0, none⟩) 1 c, .int .i64 k, .func (.func 39) #[] #[]] w fun e w' => e = .returned (.tuple #[.int .i64 (k - 1), .bool (k == 1)]) ∧ Below w.heap.size w w' := by
  have H := hide hb; clear hb
  have c11 : Lib.compareInt 1 1 = 0 := rfl
  have c12 : Lib.compareInt 1 2 = -1 := rfl
  rcases hk with rfl | rfl
  all_goals
    go_enter Tryz.func38, Tryz.ntmps38
    have HW : Hid (Below w.heap.size w w) := hide (Below.refl _ _)
    go_wp2_with fail
    refine wp_loop_rounds 3 ?_
    rw [rounds_succ]
    go_wp2_with (first
      | ((with_reducible refine wpList_load_mid ?_ 61 (.tmp 27) ?_ (g) (0) ?_ (pvL p) _ ?_ Tryz.underlying61 ?_ ?_ ?_); (focus rfl); (focus rfl); (focus rfl); (focus exact H.out.whole); (focus rfl); (focus kernel_rfl))
      | (go_at_call 39; refine (cmpC _ _ _).mono ?_; rintro e wc ⟨rfl, hb1⟩; rw [hp]; replace H := hide (H.out.below hb1); replace HW := hide (HW.out.trans (hb1.mono HW.out.size)); clear hb1))
    rw [rounds_succ]
    go_wp2_with (first
      | ((with_reducible refine wpList_load_guard ?_ ?_ 61 (.tmp 43) ?_ (g) (0) ?_ (pvL p) _ ?_ Tryz.underlying61 ?_ ?_ ?_); (focus rfl); (focus rfl); (focus rfl); (focus rfl); (focus exact H.out.whole); (focus rfl); (focus kernel_rfl))
      | (go_at_call 39; refine (cmpC _ _ _).mono ?_; rintro e wc ⟨rfl, hb1⟩; rw [hp]; replace H := hide (H.out.below hb1); replace HW := hide (HW.out.trans (hb1.mono HW.out.size)); clear hb1))
    go_ret2
    exact ⟨rfl, HW.out⟩
set_option maxRecDepth 100000 in
set_option maxHeartbeats 4000000 in
theorem bs2P (p1 p2 : Pv) (hp1 : p1.id = 1) (hp2 : p2.id = 2) (k : Int) (hk : k = 1 ∨ k = 2) (g c : Nat) (w : World) (hb : BoxAt w g (pvL p1 ++ pvL p2)) : Calls Tryz.prog 38 #[.slice (some ⟨g, 0, none⟩) 2 c, .int .i64 k, .func (.func 42) #[] #[]] w fun e w' => e = .returned (.tuple #[.int .i64 (k - 1), .bool true]) ∧ Below w.heap.size w w' := by
  have H := hide hb; clear hb
  have c11 : Lib.compareInt 1 1 = 0 := rfl
  have c12 : Lib.compareInt 1 2 = -1 := rfl
  have c21 : Lib.compareInt 2 1 = 1 := rfl
  have c22 : Lib.compareInt 2 2 = 0 := rfl
  rcases hk with rfl | rfl
  all_goals
    go_enter Tryz.func38, Tryz.ntmps38
    have HW : Hid (Below w.heap.size w w) := hide (Below.refl _ _)
    go_wp2_with fail
    refine wp_loop_rounds 4 ?_
    rw [rounds_succ]
    go_wp2_with (first
      | ((with_reducible refine wpList_load_mid ?_ 61 (.tmp 27) ?_ (g) (0) ?_ (pvL p1) _ ?_ Tryz.underlying61 ?_ ?_ ?_); (focus rfl); (focus rfl); (focus rfl); (focus exact H.out.sub 0 (pvL p1) rfl); (focus rfl); (focus kernel_rfl))
      | ((with_reducible refine wpList_load_mid ?_ 61 (.tmp 27) ?_ (g) (16) ?_ (pvL p2) _ ?_ Tryz.underlying61 ?_ ?_ ?_); (focus rfl); (focus rfl); (focus rfl); (focus exact H.out.sub 16 (pvL p2) rfl); (focus rfl); (focus kernel_rfl))
      | (go_at_call 42; refine (cmpP _ _ _).mono ?_; rintro e wc ⟨rfl, hb1⟩; (first | rw [hp1] | rw [hp2]); replace H := hide (H.out.below hb1); replace HW := hide (HW.out.trans (hb1.mono HW.out.size)); clear hb1))
    rw [rounds_succ]
    go_wp2_with (first
      | ((with_reducible refine wpList_load_mid ?_ 61 (.tmp 27) ?_ (g) (0) ?_ (pvL p1) _ ?_ Tryz.underlying61 ?_ ?_ ?_); (focus rfl); (focus rfl); (focus rfl); (focus exact H.out.sub 0 (pvL p1) rfl); (focus rfl); (focus kernel_rfl))
      | ((with_reducible refine wpList_load_mid ?_ 61 (.tmp 27) ?_ (g) (16) ?_ (pvL p2) _ ?_ Tryz.underlying61 ?_ ?_ ?_); (focus rfl); (focus rfl); (focus rfl); (focus exact H.out.sub 16 (pvL p2) rfl); (focus rfl); (focus kernel_rfl))
      | (go_at_call 42; refine (cmpP _ _ _).mono ?_; rintro e wc ⟨rfl, hb1⟩; (first | rw [hp1] | rw [hp2]); replace H := hide (H.out.below hb1); replace HW := hide (HW.out.trans (hb1.mono HW.out.size)); clear hb1))
    rw [rounds_succ]
    go_wp2_with (first
      | ((with_reducible refine wpList_load_guard ?_ ?_ 61 (.tmp 43) ?_ (g) (0) ?_ (pvL p1) _ ?_ Tryz.underlying61 ?_ ?_ ?_); (focus rfl); (focus rfl); (focus rfl); (focus rfl); (focus exact H.out.sub 0 (pvL p1) rfl); (focus rfl); (focus kernel_rfl))
      | ((with_reducible refine wpList_load_guard ?_ ?_ 61 (.tmp 43) ?_ (g) (16) ?_ (pvL p2) _ ?_ Tryz.underlying61 ?_ ?_ ?_); (focus rfl); (focus rfl); (focus rfl); (focus rfl); (focus exact H.out.sub 16 (pvL p2) rfl); (focus rfl); (focus kernel_rfl))
      | (go_at_call 42; refine (cmpP _ _ _).mono ?_; rintro e wc ⟨rfl, hb1⟩; (first | rw [hp1] | rw [hp2]); replace H := hide (H.out.below hb1); replace HW := hide (HW.out.trans (hb1.mono HW.out.size)); clear hb1))
    go_ret2
    exact ⟨rfl, HW.out⟩
end Go.Proofs.YthhfakkfdohcpaaGreat
