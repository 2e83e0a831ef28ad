/- A whole step of the transfer, at a lock. No condition. -/
import Derived.Test.YthhfakkfdohcpaaGreatM04
import Derived.Test.YthhfakkfdohcpaaGreatM05
import Derived.Test.YthhfakkfdohcpaaGreatM02
import Derived.Maps.OwnSet
namespace Go.Proofs.YthhfakkfdohcpaaGreat
open Go.RowKit
def dfL (id ds : Int) (nm B : Value) : List Value := [.int .i64 id, .int .i64 ds, nm, .int .i64 0, .int .i64 0, .slice none 0 0, .slice none 0 0, .int .i64 0, .int .i64 0, .slice none 0 0, .int .i64 100, B]
def fcL (G A : Value) (must may pa : Int) : List Value := [.bool false, .slice none 0 0, G, .slice none 0 0, A, .int .i64 must, .int .i64 may, .int .i64 pa]
def deL : List Value := [.bool true, .slice none 0 0, .slice none 0 0, .slice none 0 0, .slice none 0 0, .int .i64 0, .int .i64 0, .int .i64 0]
def pgL (b : Nat → Nat) : List Value := [.slice (some ⟨b 0, 0, none⟩) 2 2, .slice (some ⟨b 1, 0, none⟩) 2 2, .slice (some ⟨b 2, 0, none⟩) 1 1, .slice (some ⟨b 3, 0, none⟩) 3 3, .int .i64 3, .int .i64 3, .int .i64 2, .slice (some ⟨b 4, 0, none⟩) 2 2, .slice (some ⟨b 5, 0, none⟩) 2 2, .slice (some ⟨b 6, 0, none⟩) 2 2]
/-- What a step says: its cells. -/
def spL (G A : Value) (r pa : Int) (lk : Int) (ps : Value) : List Value := [.bool false, .slice none 0 0, G, .slice none 0 0, A, .int .i64 r, .int .i64 r, .int .i64 pa] ++ [.bool true, .slice none 0 0, .slice none 0 0, .slice none 0 0, .slice none 0 0, .int .i64 0, .int .i64 0, .int .i64 0] ++ [.int .i64 0, .int .i64 lk, .slice none 0 0, ps, .slice none 0 0]
def zeroL : List Value := [.bool false, .slice none 0 0, .slice none 0 0, .slice none 0 0, .slice none 0 0, .int .i64 0, .int .i64 0, .int .i64 0]
def stepZ : List Value := zeroL ++ zeroL ++ [.int .i64 0, .int .i64 0, .slice none 0 0, .slice none 0 0, .slice none 0 0]
theorem after_put {K : Act → World → Prop} {a : Act} {W : World} {wk : Nat} {vs : List Value} (o : Nat) (cs vs' : List Value) (h : BoxAt W wk vs) (hl : o + cs.length ≤ vs.length) (e : vs' = vs.take o ++ cs ++ vs.drop (o + cs.length))
    (k : ∀ V, BoxAt V wk vs' → But (fun k => k = wk) W V → K a V) : K a (W.setCells wk o cs.toArray.toList) :=
  k _ (h.put o cs vs' hl e) (But.setCells (S := fun k => k = wk) rfl _ _ _ (But.refl _ _))
theorem wp_alloc_as {c : Code} {Q : Exit → Act → World → Prop} {a : Act} {W : World} {E E' : Array Value} {t : TypeId} (e : E = E') (h : ∀ W2, W2 = W.alloc (.cells E' t) → c.wp Tryz.prog Q a W2) : c.wp Tryz.prog Q a (W.alloc (.cells E t)) := by
  subst e; exact h _ rfl
theorem PsAt.one {W : World} {base : Nat} {site : Int} {pr : Option (Int × Int)} {ps : Value} (h : PsAt W base site pr ps) : ps.oneCell' = true := by
  cases pr with
  | none => rw [show ps = .slice none 0 0 from h]; rfl
  | some q =>
    obtain ⟨g, cap, h1, -⟩ := h
    rw [h1]; rfl
theorem spL_one {A1 A2 : Option Addr} {n1 n2 c1 c2 : Nat} {r pa lk : Int} {ps : Value} (hp : ps.oneCell' = true) : ∀ u ∈ spL (.slice A1 n1 c1) (.slice A2 n2 c2) r pa lk ps, u.oneCell' = true := by
  intro u hu
  simp only [spL, List.cons_append, List.nil_append, List.mem_cons, List.not_mem_nil, or_false] at hu
  rcases hu with rfl | rfl | rfl | rfl | rfl | rfl | rfl | rfl | rfl | rfl | rfl | rfl | rfl | rfl | rfl | rfl | rfl | rfl | rfl | rfl | rfl <;> first | rfl | exact hp
theorem boxes6 (w : World) (a b c d e f : List Value) (ta tb tc td te tf : TypeId) (W : World) (h : W = (((((w.alloc (.cells a.toArray ta)).alloc (.cells b.toArray tb)).alloc (.cells c.toArray tc)).alloc (.cells d.toArray td)).alloc (.cells e.toArray te)).alloc (.cells f.toArray tf)) :
    BoxAt W w.heap.size a ∧ BoxAt W (w.heap.size + 1) b ∧ BoxAt W (w.heap.size + 1 + 1) c ∧ BoxAt W (w.heap.size + 1 + 1 + 1) d ∧ BoxAt W (w.heap.size + 1 + 1 + 1 + 1) e ∧ BoxAt W (w.heap.size + 1 + 1 + 1 + 1 + 1) f ∧ W.heap.size = w.heap.size + 6 ∧ Below w.heap.size w W := by
  obtain ⟨b1, b2, b3, b4, hz, hb⟩ := boxes4 w a b c d ta tb tc td _ rfl
  obtain ⟨b5, b6, hz2, hb2⟩ := boxes2 ((((w.alloc (.cells a.toArray ta)).alloc (.cells b.toArray tb)).alloc (.cells c.toArray tc)).alloc (.cells d.toArray td)) e f te tf W h
  rw [hz] at b5 b6 hz2
  exact ⟨b1.below hb2, b2.below hb2, b3.below hb2, b4.below hb2, b5, b6, by omega, hb.trans (hb2.mono (by omega))⟩
/-- What a step gives back. -/
def SimTo (w : World) (Aa : Option Addr) (ca : Nat) (r pa lk : Int) (site : Int) (pr : Option (Int × Int)) (e : Ending) (w' : World) : Prop :=
  ∃ A c ps, e = .returned (.agg (spL (.slice A 0 c) (.slice Aa 0 ca) r pa lk ps).toArray) ∧ EmpA A c ∧ PsAt w' w.heap.size site pr ps ∧ Below w.heap.size w w'
set_option maxRecDepth 100000 in
set_option maxHeartbeats 8000000 in
theorem simple_any (b : Nat → Nat) (As : Option Addr) (ns cs : Nat) (lv : Int) (hl : Lev lv) (op m v lk r : Int) (pr : Option (Int × Int)) (hk : Kd op m v lk r pr) (id ds : Int) (nm : ByteArray) (Ab : Option Addr) (nb cb : Nat) (site : Int) (Ag Aa : Option Addr) (cg ca : Nat) (hg : EmpA Ag cg) (pa : Int) (w : World) :
    Calls Tryz.prog 138 #[.agg (pgL b).toArray, .agg #[.int .i64 lv, .slice none 0 0], .agg (dfL id ds (.string nm) (.slice Ab nb cb)).toArray, .agg (stL site op m).toArray, .agg (fcL (.slice Ag 0 cg) (.slice Aa 0 ca) v v pa).toArray, .slice As ns cs] w (SimTo w Aa ca r pa lk site pr) := by
  have Hk := hide hk; clear hk
  have Hl := hide hl; clear hl
  have Hg := hide hg; clear hg
  go_enter Tryz.func138, Tryz.ntmps138
  simp only [pgL, dfL, stL, fcL]
  go_upto_region 1 with (fail)
  obtain ⟨W, hW⟩ : ∃ V, V = (((((w.alloc (.cells (pgL b).toArray 48)).alloc (.cells [.int .i64 lv, .slice none 0 0].toArray 52)).alloc (.cells (dfL id ds (.string nm) (.slice Ab nb cb)).toArray 83)).alloc (.cells (stL site op m).toArray 121)).alloc (.cells (fcL (.slice Ag 0 cg) (.slice Aa 0 ca) v v pa).toArray 164)).alloc (.cells stepZ.toArray 243) := ⟨_, rfl⟩
  have hb6 := boxes6 w _ _ _ _ _ _ _ _ _ _ _ _ W hW
  have hW' := hW
  simp only [pgL, dfL, stL, fcL, stepZ, zeroL, List.cons_append, List.nil_append] at hW'
  rw [← hW']
  clear hW hW'
  obtain ⟨b6, b7, b8, b9, b10, b12, hz, hbW⟩ := hb6
  have B6 := hide b6
  have B7 := hide b7
  have B8 := hide b8
  have B9 := hide b9
  have B10 := hide b10
  have B12 := hide b12
  have d10 := B10.out.1 0 _ rfl
  have d7 := B7.out.1 0 _ rfl
  have d71 := B7.out.1 1 _ rfl
  clear b6 b7 b8 b9 b10 b12
  go_upto_region 5 with (first
    | ((with_reducible refine wpList_load_mid ?_ 48 (.tmp 6) ?_ w.heap.size 0 ?_ (pgL b) _ ?_ Tryz.underlying48 ?_ ?_ ?_); (focus rfl); (focus rfl); (focus rfl); (focus exact B6.out.whole); (focus rfl); (focus kernel_rfl); simp only [pgL])
    | ((with_reducible refine wpList_load_mid ?_ 83 (.tmp 8) ?_ (w.heap.size + 1 + 1) 0 ?_ (dfL id ds (.string nm) (.slice Ab nb cb)) _ ?_ Tryz.underlying83 ?_ ?_ ?_); (focus rfl); (focus rfl); (focus rfl); (focus exact B8.out.whole); (focus rfl); (focus kernel_rfl); simp only [dfL])
    | ((with_reducible refine wpList_load_mid ?_ 121 (.tmp 9) ?_ (w.heap.size + 1 + 1 + 1) 0 ?_ (stL site op m) _ ?_ Tryz.underlying121 ?_ ?_ ?_); (focus rfl); (focus rfl); (focus rfl); (focus exact B9.out.whole); (focus rfl); (focus kernel_rfl); simp only [stL])
    | ((with_reducible refine wpList_load_mid ?_ 164 (.tmp 10) ?_ (w.heap.size + 1 + 1 + 1 + 1) 0 ?_ (fcL (.slice Ag 0 cg) (.slice Aa 0 ca) v v pa) _ ?_ Tryz.underlying164 ?_ ?_ ?_); (focus rfl); (focus rfl); (focus rfl); (focus exact B10.out.whole); (focus rfl); (focus kernel_rfl); simp only [fcL]))
  refine wp_alloc_as (E' := (wkL 0 (.slice none 0 0) (pgV b) lv id ds (.string nm) (.slice Ab nb cb) site op m (.slice Ag 0 cg) (.slice Aa 0 ca) v v pa (.slice As ns cs)).toArray) (by kernel_rfl) (fun W2 hW2 => ?_)
  have H1 : BoxAt W2 (w.heap.size + 6) (wkL 0 (.slice none 0 0) (pgV b) lv id ds (.string nm) (.slice Ab nb cb) site op m (.slice Ag 0 cg) (.slice Aa 0 ca) v v pa (.slice As ns cs)) := by rw [hW2, ← hz]; exact BoxAt.new _ _ _
  have hbW2 : Below W.heap.size W W2 := by rw [hW2]; exact (Below.refl _ _).alloc (Nat.le_refl _) _
  have hz2 : W2.heap.size = w.heap.size + 7 := by rw [hW2, World.size_alloc, hz]
  have HK0 := hide H1
  have HD0 := hide (B8.out.below hbW2)
  have HS0 := hide (B7.out.below hbW2)
  have HR0 := hide (B12.out.below hbW2)
  have HB0 : Hid (Below w.heap.size w W2) := hide (hbW.trans (hbW2.mono (by omega)))
  have Hz2 := hide hz2
  clear H1 hbW2 hW2 hbW hz hz2 d10 d7 d71 B6 B7 B8 B9 B10 B12
  go_upto_region 6 with (go_at_call 169; refine (goes_any _ b op m v lk r pr Hk.out _ lv id ds _ _ site _ _ pa _ HK0.out).mono ?_; rintro e w1 ⟨ps, rfl, h1, h2, h3⟩; have HK1 := hide h1; have HP1 := hide h2; have HB1 := hide h3; clear h1 h2 h3)
  have HD1 := hide (HD0.out.but HB1.out (by omega))
  have HS1 := hide (HS0.out.but HB1.out (by omega))
  have HR1 := hide (HR0.out.but HB1.out (by omega))
  have Hps := hide HP1.out.one
  clear HK0 HD0 HS0 HR0
  go_cut [41] (fun _ wx => ∃ A2 c2, EmpA A2 c2 ∧ BoxAt wx (w.heap.size + 6) (fcL (.slice A2 0 c2) (.slice Aa 0 ca) r r pa ++ deL ++ (wkL lk ps (pgV b) lv id ds (.string nm) (.slice Ab nb cb) site op m (.slice Ag 0 cg) (.slice Aa 0 ca) r r pa (.slice As ns cs)).drop 16) ∧ BoxAt wx (w.heap.size + 1 + 1 + 1 + 1 + 1) stepZ ∧ But (fun k => k = w.heap.size + 6) w1 wx)
  case first =>
    refine wp_region_held_drew (S := fun w' => BoxAt w' (w.heap.size + 1 + 1) (dfL id ds (.string nm) (.slice Ab nb cb)) ∧ BoxAt w' (w.heap.size + 1) [.int .i64 lv, .slice none 0 0] ∧ w'.rangeAt (w.heap.size + 6) 65 (fcL (.slice Ag 0 cg) (.slice Aa 0 ca) r r pa) ∧ w'.rangeAt (w.heap.size + 6) 8 deL) (by kernel_rfl) ?_ (fun hHeld => ?_)
    · exact ⟨HD1.out.drew, HS1.out.drew, HK1.out.drew.sub 65 _ rfl, HK1.out.drew.sub 8 _ rfl⟩
    refine take_as 0 (some 41) (v := ?_) rfl rfl (by kernel_rfl) (by kernel_rfl) (by kernel_rfl) (fun _ _ _ h => h) (Or.inl ⟨by rfl, ?_⟩) (by assumption) ?_
    rotate_left 1
    · intro w2 hSw
      go_simp
      try with_reducible rfl
    try simp only [Act.put, List.setIfInBounds_toArray, List.set_cons_zero, List.set_cons_succ]
    refine take_as 1 (some 42) (v := ?_) rfl rfl (by kernel_rfl) (by kernel_rfl) (by kernel_rfl) (fun _ _ _ h => h) (Or.inl ⟨by rfl, ?_⟩) (by assumption) ?_
    rotate_left 1
    · intro w2 hSw
      go_simp
      try with_reducible rfl
    try simp only [Act.put, List.setIfInBounds_toArray, List.set_cons_zero, List.set_cons_succ]
    refine take_as 2 (some 43) rfl rfl (by kernel_rfl) (by kernel_rfl) (by kernel_rfl) (fun _ _ _ h => h) (yieldsIf_load_mid (by rfl) 83 (.tmp 8) rfl (w.heap.size + 1 + 1) 0 rfl (dfL id ds (.string nm) (.slice Ab nb cb)) _ (fun w2 h2 => h2.1.whole) Tryz.underlying83 rfl (by kernel_rfl)) (by assumption) ?_
    try simp only [Act.put, List.setIfInBounds_toArray, List.set_cons_zero, List.set_cons_succ]
    refine take_as 3 (some 44) (v := ?_) rfl rfl (by kernel_rfl) (by kernel_rfl) (by kernel_rfl) (fun _ _ _ h => h) (Or.inl ⟨by rfl, ?_⟩) (by assumption) ?_
    rotate_left 1
    · intro w2 hSw
      go_simp
      try with_reducible rfl
    try simp only [Act.put, List.setIfInBounds_toArray, List.set_cons_zero, List.set_cons_succ]
    refine take_as 4 (some 45) (v := ?_) rfl rfl (by kernel_rfl) (by kernel_rfl) (by kernel_rfl) (fun _ _ _ h => h) (Or.inl ⟨by rfl, ?_⟩) (by assumption) ?_
    rotate_left 1
    · intro w2 hSw
      have hl := hSw.2.1.1 0 _ rfl
      go_simp
      try with_reducible rfl
    try simp only [Act.put, List.setIfInBounds_toArray, List.set_cons_zero, List.set_cons_succ]
    refine take_as 5 (some 46) (v := ?_) rfl rfl (by kernel_rfl) (by kernel_rfl) (by kernel_rfl) (fun _ _ _ h => h) (Or.inl ⟨by rfl, ?_⟩) (by assumption) ?_
    rotate_left 1
    · intro w2 hSw
      go_simp
      try with_reducible rfl
    try simp only [Act.put, List.setIfInBounds_toArray, List.set_cons_zero, List.set_cons_succ]
    refine take_as 6 (some 47) (v := ?_) rfl rfl (by kernel_rfl) (by kernel_rfl) (by kernel_rfl) (fun _ _ _ h => h) (Or.inl ⟨by rfl, ?_⟩) (by assumption) ?_
    rotate_left 1
    · intro w2 hSw
      go_simp
      try with_reducible rfl
    try simp only [Act.put, List.setIfInBounds_toArray, List.set_cons_zero, List.set_cons_succ]
    refine take_as 7 (some 48) (v := ?_) rfl rfl (by kernel_rfl) (by kernel_rfl) (by kernel_rfl) (fun _ _ _ h => h) (Or.inl ⟨by rfl, ?_⟩) (by assumption) ?_
    rotate_left 1
    · intro w2 hSw
      go_simp
      try with_reducible rfl
    try simp only [Act.put, List.setIfInBounds_toArray, List.set_cons_zero, List.set_cons_succ]
    refine take_as 8 (some 49) rfl rfl (by kernel_rfl) (by kernel_rfl) (by kernel_rfl) (fun _ _ _ h => h) (yieldsIf_load_mid (by rfl) 164 (.tmp 48) rfl (w.heap.size + 6) 65 rfl (fcL (.slice Ag 0 cg) (.slice Aa 0 ca) r r pa) _ (fun w2 h2 => h2.2.2.1) Tryz.underlying164 rfl (by kernel_rfl)) (by assumption) ?_
    try simp only [Act.put, List.setIfInBounds_toArray, List.set_cons_zero, List.set_cons_succ]
    refine take_as 10 (some 51) rfl rfl (by kernel_rfl) (by kernel_rfl) (by kernel_rfl) (fun _ _ _ h => h) (yieldsIf_load_mid (by rfl) 83 (.tmp 8) rfl (w.heap.size + 1 + 1) 0 rfl (dfL id ds (.string nm) (.slice Ab nb cb)) _ (fun w2 h2 => h2.1.whole) Tryz.underlying83 rfl (by kernel_rfl)) (by assumption) ?_
    try simp only [Act.put, List.setIfInBounds_toArray, List.set_cons_zero, List.set_cons_succ]
    refine take_as 11 (some 52) (v := ?_) rfl rfl (by kernel_rfl) (by kernel_rfl) (by kernel_rfl) (fun _ _ _ h => h) (Or.inl ⟨by rfl, ?_⟩) (by assumption) ?_
    rotate_left 1
    · intro w2 hSw
      go_simp
      try with_reducible rfl
    try simp only [Act.put, List.setIfInBounds_toArray, List.set_cons_zero, List.set_cons_succ]
    refine take_as 12 (some 53) (v := ?_) rfl rfl (by kernel_rfl) (by kernel_rfl) (by kernel_rfl) (fun _ _ _ h => h) (Or.inl ⟨by rfl, ?_⟩) (by assumption) ?_
    rotate_left 1
    · intro w2 hSw
      have hl := hSw.2.1.1 0 _ rfl
      go_simp
      try with_reducible rfl
    try simp only [Act.put, List.setIfInBounds_toArray, List.set_cons_zero, List.set_cons_succ]
    refine take_as 13 (some 54) (v := ?_) rfl rfl (by kernel_rfl) (by kernel_rfl) (by kernel_rfl) (fun _ _ _ h => h) (Or.inl ⟨by rfl, ?_⟩) (by assumption) ?_
    rotate_left 1
    · intro w2 hSw
      go_simp
      try with_reducible rfl
    try simp only [Act.put, List.setIfInBounds_toArray, List.set_cons_zero, List.set_cons_succ]
    refine take_as 14 (some 55) (v := ?_) rfl rfl (by kernel_rfl) (by kernel_rfl) (by kernel_rfl) (fun _ _ _ h => h) (Or.inl ⟨by rfl, ?_⟩) (by assumption) ?_
    rotate_left 1
    · intro w2 hSw
      go_simp
      try with_reducible rfl
    try simp only [Act.put, List.setIfInBounds_toArray, List.set_cons_zero, List.set_cons_succ]
    refine take_as 15 (some 56) (v := ?_) rfl rfl (by kernel_rfl) (by kernel_rfl) (by kernel_rfl) (fun _ _ _ h => h) (Or.inl ⟨by rfl, ?_⟩) (by assumption) ?_
    rotate_left 1
    · intro w2 hSw
      go_simp
      try with_reducible rfl
    try simp only [Act.put, List.setIfInBounds_toArray, List.set_cons_zero, List.set_cons_succ]
    refine take_as 16 (some 57) (v := ?_) rfl rfl (by kernel_rfl) (by kernel_rfl) (by kernel_rfl) (fun _ _ _ h => h) (Or.inl ⟨by rfl, ?_⟩) (by assumption) ?_
    rotate_left 1
    · intro w2 hSw
      go_simp
      try with_reducible rfl
    try simp only [Act.put, List.setIfInBounds_toArray, List.set_cons_zero, List.set_cons_succ]
    refine take_as 17 (some 58) rfl rfl (by kernel_rfl) (by kernel_rfl) (by kernel_rfl) (fun _ _ _ h => h) (yieldsIf_load_mid (by rfl) 164 (.tmp 57) rfl (w.heap.size + 6) 8 rfl deL _ (fun w2 h2 => h2.2.2.2) Tryz.underlying164 rfl (by kernel_rfl)) (by assumption) ?_
    try simp only [Act.put, List.setIfInBounds_toArray, List.set_cons_zero, List.set_cons_succ]
    refine wpAnyH_ready (rs := [9]) (by kernel_rfl) (by simp) ?_
    refine AllReadyH.cons rfl (fun K hK => ?_) ?_
    · go_simp
      refine (drop_live lv Hl.out _ _ _ _ _ _ _ Ag Aa cg ca Hg.out _).mono ?_
      rintro e w2 ⟨A2, c2, rfl, hA2, hb2⟩
      have hB2 : Below w1.heap.size w1 w2 := Below.trans (Below.refl _ w1).drew hb2
      have HK2 := hide (HK1.out.below hB2)
      have HD2 := hide (HD1.out.below hB2)
      have HS2 := hide (HS1.out.below hB2)
      have HR2 := hide (HR1.out.below hB2)
      have HT2 := hide (Below.but hB2 (fun k => k = w.heap.size + 6))
      clear hb2 hB2
      go_wp2_with fail
      refine hK.out _ _ ?_ (fun hHeld => ?_)
      · exact ⟨HD2.out, HS2.out, HK2.out.sub 65 _ rfl, HK2.out.sub 8 _ rfl⟩
      clear hK K
      try simp only [Act.put, List.setIfInBounds_toArray, List.set_cons_zero, List.set_cons_succ]
      refine wpAnyH_ready (rs := [18]) (by kernel_rfl) (by simp) ?_
      refine AllReadyH.cons rfl (fun K hK => ?_) ?_
      · go_simp
        refine (drop_dead (.bool true) lv _ _ _ _ _).mono ?_
        rintro e w3 ⟨rfl, hb3⟩
        have HK3 := hide (HK2.out.below hb3)
        have HD3 := hide (HD2.out.below hb3)
        have HS3 := hide (HS2.out.below hb3)
        have HR3 := hide (HR2.out.below hb3)
        have HT3 := hide (HT2.out.afterBelow hb3)
        clear hb3
        go_wp2_with fail
        refine hK.out _ _ ?_ (fun hHeld => ?_)
        · exact ⟨HD3.out, HS3.out, HK3.out.sub 65 _ rfl, HK3.out.sub 8 _ rfl⟩
        clear hK K
        try simp only [Act.put, List.setIfInBounds_toArray, List.set_cons_zero, List.set_cons_succ]
        refine take_as 19 (some 60) (v := ?_) rfl rfl (by kernel_rfl) (by kernel_rfl) (by kernel_rfl) (fun _ _ _ h => h) (Or.inl ⟨by rfl, ?_⟩) (by assumption) ?_
        rotate_left 1
        · intro w2 hSw
          go_simp
          try with_reducible rfl
        try simp only [Act.put, List.setIfInBounds_toArray, List.set_cons_zero, List.set_cons_succ]
        refine take_as 20 (some 61) (v := ?_) rfl rfl (by kernel_rfl) (by kernel_rfl) (by kernel_rfl) (fun _ _ _ h => h) (Or.inl ⟨by rfl, ?_⟩) (by assumption) ?_
        rotate_left 1
        · intro w2 hSw
          go_simp
          try with_reducible rfl
        try simp only [Act.put, List.setIfInBounds_toArray, List.set_cons_zero, List.set_cons_succ]
        refine take_as 21 (some 62) (v := ?_) rfl rfl (by kernel_rfl) (by kernel_rfl) (by kernel_rfl) (fun _ _ _ h => h) (Or.inl ⟨by rfl, ?_⟩) (by assumption) ?_
        rotate_left 1
        · intro w2 hSw
          go_simp
          try with_reducible rfl
        try simp only [Act.put, List.setIfInBounds_toArray, List.set_cons_zero, List.set_cons_succ]
        refine wpAnyH_ready (rs := [22]) (by kernel_rfl) (by simp) ?_
        refine AllReadyH.cons rfl (fun K hK => ?_) ?_
        · refine step_store_as rfl rfl 164 (.tmp 62) (.tmp 50) rfl (w.heap.size + 6) 0 (fcL (.slice A2 0 c2) (.slice Aa 0 ca) r r pa).toArray rfl rfl (HK3.out.there 0 8 (by show 0 + 8 ≤ 74; decide)) (by kernel_rfl) (all_oneCell_toArray (by simp [fcL, Value.oneCell'])) ?_
          refine after_put 0 (fcL (.slice A2 0 c2) (.slice Aa 0 ca) r r pa) _ HK3.out (by show 0 + 8 ≤ 74; decide) rfl (fun V4 hV4 hT4 => ?_)
          have HV4 := hide hV4
          have HT4 := hide (HT3.out.trans hT4)
          have HD4 := hide (HD3.out.but hT4 (by omega))
          have HS4 := hide (HS3.out.but hT4 (by omega))
          have HR4 := hide (HR3.out.but hT4 (by omega))
          clear hV4 hT4
          refine hK.out _ _ ?_ (fun hHeld => ?_)
          · exact ⟨HD4.out, HS4.out, HV4.out.sub 65 _ rfl, HV4.out.sub 8 _ rfl⟩
          clear hK K
          try simp only [Act.put, List.setIfInBounds_toArray, List.set_cons_zero, List.set_cons_succ]
          refine take_as 23 (some 63) (v := ?_) rfl rfl (by kernel_rfl) (by kernel_rfl) (by kernel_rfl) (fun _ _ _ h => h) (Or.inl ⟨by rfl, ?_⟩) (by assumption) ?_
          rotate_left 1
          · intro w2 hSw
            go_simp
            try with_reducible rfl
          try simp only [Act.put, List.setIfInBounds_toArray, List.set_cons_zero, List.set_cons_succ]
          refine take_as 24 (some 64) (v := ?_) rfl rfl (by kernel_rfl) (by kernel_rfl) (by kernel_rfl) (fun _ _ _ h => h) (Or.inl ⟨by rfl, ?_⟩) (by assumption) ?_
          rotate_left 1
          · intro w2 hSw
            go_simp
            try with_reducible rfl
          try simp only [Act.put, List.setIfInBounds_toArray, List.set_cons_zero, List.set_cons_succ]
          refine take_as 25 (some 65) (v := ?_) rfl rfl (by kernel_rfl) (by kernel_rfl) (by kernel_rfl) (fun _ _ _ h => h) (Or.inl ⟨by rfl, ?_⟩) (by assumption) ?_
          rotate_left 1
          · intro w2 hSw
            go_simp
            try with_reducible rfl
          try simp only [Act.put, List.setIfInBounds_toArray, List.set_cons_zero, List.set_cons_succ]
          refine wpAnyH_ready (rs := [26]) (by kernel_rfl) (by simp) ?_
          refine AllReadyH.cons rfl (fun K hK => ?_) ?_
          · refine step_store_as rfl rfl 164 (.tmp 65) (.tmp 59) rfl (w.heap.size + 6) 8 deL.toArray rfl rfl (HV4.out.there 8 8 (by show 8 + 8 ≤ 74; decide)) (by kernel_rfl) (all_oneCell_toArray (by simp [deL, Value.oneCell'])) ?_
            refine after_put 8 deL _ HV4.out (by show 8 + 8 ≤ 74; decide) rfl (fun V5 hV5 hT5 => ?_)
            have HV5 := hide hV5
            have HT5 := hide (HT4.out.trans hT5)
            have HD5 := hide (HD4.out.but hT5 (by omega))
            have HS5 := hide (HS4.out.but hT5 (by omega))
            have HR5 := hide (HR4.out.but hT5 (by omega))
            clear hV5 hT5
            refine hK.out _ _ ?_ (fun hHeld => ?_)
            · exact ⟨HD5.out, HS5.out, HV5.out.sub 65 _ rfl, HV5.out.sub 8 _ rfl⟩
            clear hK K
            try simp only [Act.put, List.setIfInBounds_toArray, List.set_cons_zero, List.set_cons_succ]
            refine wpAnyH_done (by kernel_rfl) ?_ _
            go_wp2_with fail
            go_meet
            exact ⟨A2, c2, hA2, HV5.out, HR5.out, HT5.out⟩
          exact AllReadyH.nil
        exact AllReadyH.nil
      exact AllReadyH.nil
    exact AllReadyH.nil
  case rest =>
    obtain ⟨A2, c2, hA2, hV5, hR5, hT5⟩ := hcut
    obtain ⟨V5, hV⟩ : ∃ V : World, V = wc := ⟨_, rfl⟩
    rw [← hV] at hV5 hR5 hT5 ⊢
    have HV5 := hide hV5
    have HR5 := hide hR5
    have HT5 := hide hT5
    clear hV hV5 hR5 hT5
    go_wp2_with (first
    | ((with_reducible refine wpList_load_mid ?_ 243 (.tmp 68) ?_ (w.heap.size + 6) 0 ?_ (spL (.slice A2 0 c2) (.slice Aa 0 ca) r pa lk ps) _ ?_ Tryz.underlying243 ?_ ?_ ?_); (focus rfl); (focus rfl); (focus rfl); (focus exact HV5.out.sub 0 _ rfl); (focus rfl); (focus kernel_rfl))
    | ((with_reducible refine wpList_store_mid ?_ 243 (.tmp 12) (.tmp 69) ?_ (w.heap.size + 1 + 1 + 1 + 1 + 1) 0 (spL (.slice A2 0 c2) (.slice Aa 0 ca) r pa lk ps).toArray ?_ ?_ ?_ ?_ ?_ ?_); (focus rfl); (focus rfl); (focus rfl); (focus rfl); (focus exact HR5.out.there 0 _ (by show 0 + 21 ≤ 21; decide)); (focus kernel_rfl); (focus exact all_oneCell_toArray (spL_one Hps.out)); generalize hV6 : V5.setCells (w.heap.size + 1 + 1 + 1 + 1 + 1) 0 (spL (.slice A2 0 c2) (.slice Aa 0 ca) r pa lk ps).toArray.toList = V6; have HV6 := hide hV6; clear hV6))
    have R6 : BoxAt V6 (w.heap.size + 1 + 1 + 1 + 1 + 1) (spL (.slice A2 0 c2) (.slice Aa 0 ca) r pa lk ps) := by rw [← HV6.out]; exact HR5.out.put 0 _ _ (by show 0 + 21 ≤ 21; decide) (by rfl)
    have T6 : But (fun k => k = (w.heap.size + 1 + 1 + 1 + 1 + 1)) V5 V6 := by rw [← HV6.out]; exact But.setCells (S := fun k => k = (w.heap.size + 1 + 1 + 1 + 1 + 1)) rfl _ _ _ (But.refl _ _)
    have hz := Hz2.out
    have b5 : Below w.heap.size w V5 := HB0.out.trans ((HB1.out.trans HT5.out).below (by omega) (fun k hk => by omega))
    have b6 : Below w.heap.size w V6 := b5.trans (T6.below b5.size (fun k hk => by omega))
    have p6 := ((HP1.out.but HT5.out (fun k hk => by omega)).but T6 (fun k hk => by omega)).mono (base' := w.heap.size) (by omega)
    exact bodyPost_ret (res_box (cs := spL (.slice A2 0 c2) (.slice Aa 0 ca) r pa lk ps) rfl rfl R6 Tryz.underlying243 rfl (by kernel_rfl)) rfl ⟨A2, c2, ps, rfl, hA2, p6, b6⟩
end Go.Proofs.YthhfakkfdohcpaaGreat
/- Maps whose entries are known one by one. No condition. -/
namespace Go.Proofs.YthhfakkfdohcpaaGreat
open Go.RowKit Go.ChangeMaps Go.MapKept

/-- The entries of a map: keys and values, in the order in which they came. -/
def entL (l : List (Value × Value)) : List MapEntry := l.zipIdx.map fun q => { key := q.1.1, val := q.1.2, born := q.2 }
def mapObj (l : List (Value × Value)) : Obj := .map (entL l).toArray l.length
def MapAt (W : World) (m : Nat) (l : List (Value × Value)) : Prop := W.heap[m]? = some (mapObj l)
theorem entL_snoc (l : List (Value × Value)) (k v : Value) : entL (l ++ [(k, v)]) = entL l ++ [{ key := k, val := v, born := l.length }] := by
  simp [entL, List.zipIdx_append]
theorem entL_key {l : List (Value × Value)} {e : MapEntry} (h : e ∈ entL l) : ∃ q ∈ l, e.key = q.1 ∧ e.val = q.2 := by
  simp only [entL, List.mem_map] at h
  obtain ⟨q, hq, rfl⟩ := h
  exact ⟨q.1, List.fst_mem_of_mem_zipIdx hq, rfl, rfl⟩
theorem MapAt.lt {W : World} {m : Nat} {l : List (Value × Value)} (h : MapAt W m l) : m < W.heap.size := (Array.getElem?_eq_some_iff.1 h).1
theorem MapAt.but {S : Nat → Prop} {W W' : World} {m : Nat} {l : List (Value × Value)} (h : MapAt W m l) (hb : But S W W') (hs : ¬ S m) : MapAt W' m l := (hb.block m h.lt hs).trans h
theorem MapAt.below {W W' : World} {m : Nat} {l : List (Value × Value)} (h : MapAt W m l) (hb : Below W.heap.size W W') : MapAt W' m l := (hb.block m h.lt).trans h
theorem MapAt.new (W : World) : MapAt (W.alloc (.map #[] 0)) W.heap.size [] := heap_alloc_new W _
theorem MapAt.drew {W : World} {m : Nat} {l : List (Value × Value)} (h : MapAt W m l) : MapAt W.drew m l := h
theorem MapAt.set {W : World} {m b o : Nat} {v : Value} {l : List (Value × Value)} (h : MapAt W m l) (hb : b ≠ m) : MapAt (W.setCell ⟨b, o, none⟩ v) m l := (Below.heap_setCell _ _ _ _ (fun e => hb e.symm)).trans h
/-- The world with a map that is written. -/
def putMap (W : World) (m : Nat) (l : List (Value × Value)) : World := setBlock W m (mapObj l)
theorem putMap_at {W : World} {m : Nat} {l l' : List (Value × Value)} (h : MapAt W m l) : MapAt (putMap W m l') m l' := heap_setBlock_same h _
theorem putMap_but {W : World} {m : Nat} {l : List (Value × Value)} (l' : List (Value × Value)) (h : MapAt W m l) : But (fun k => k = m) W (putMap W m l') :=
  ⟨rfl, rfl, rfl, by simp [putMap, setBlock], fun k _ hk => heap_setBlock_other h _ hk⟩
/-- A key that is not there. -/
def NoKey (K : TypeId) (k : Value) (l : List (Value × Value)) : Prop := ∀ w, (Instr.findKey K k (entL l)).run Tryz.prog w = .ok none w
theorem noKey_nil {K : TypeId} {d : TypeDesc} (hK : Tryz.prog.underlying K = some d) (k : Value) : NoKey K k [] := fun w => by
  simp [Instr.findKey, entL, run_underlying hK w, Result.andThen, Instr.findNow]
theorem findNow_int (q : IntKind) (k : Int) : ∀ (es : List MapEntry) (i : Nat), (∀ e ∈ es, ∃ a, e.key = .int .i64 a ∧ a ≠ k) → Instr.findNow (.int q) (.int .i64 k) es i = some none
  | [], _, _ => rfl
  | e :: es, i, h => by
    obtain ⟨a, ha, hne⟩ := h e (by simp)
    have hb : (k == a) = false := by simpa using fun x => hne x.symm
    simp only [Instr.findNow, ha, Instr.sameNow, if_pos, hb]
    exact findNow_int q k es (i + 1) (fun e he => h e (by simp [he]))
theorem noKey_int {K : TypeId} {q : IntKind} (hK : Tryz.prog.underlying K = some (.int q)) (k : Int) (l : List (Value × Value)) (h : ∀ p ∈ l, ∃ a, p.1 = .int .i64 a ∧ a ≠ k) : NoKey K (.int .i64 k) l := fun w => by
  have := findNow_int q k (entL l) 0 (fun e he => by
    obtain ⟨p, hp, h1, -⟩ := entL_key he
    obtain ⟨a, h2, h3⟩ := h p hp
    exact ⟨a, h1.trans h2, h3⟩)
  simp [Instr.findKey, Sem.run_bind, run_underlying hK w, Result.andThen, this]
theorem run_update_new {T K E : TypeId} {W : World} {m : Nat} {l : List (Value × Value)} {k v : Value} (ht : Tryz.prog.underlying T = some (.map K E)) (h : MapAt W m l)
    (hck : ∀ w, (Instr.checkKey false 10000 K k).run Tryz.prog w = .ok () w) (hn : NoKey K k l) :
    (Instr.mapUpdate T (.map (some m)) k v).run Tryz.prog W = .ok () (putMap W m (l ++ [(k, v)])) := by
  have hg : (getObj m).run Tryz.prog W = .ok (.map (entL l).toArray l.length) W := MapKept.run_getObj_map h
  have hs := fun o => MapKept.run_setObj_map (P := Tryz.prog) (w := W) (r := m) o h
  have hf := hn W
  simp only [Instr.mapUpdate, Sem.run_bind, run_underlying ht W, Result.andThen, hg, hck W, hf, hs]
  simp only [putMap, setBlock, mapObj, entL_snoc, List.length_append, List.length_cons, List.length_nil]
  simp
/-- A new entry, as a step of a region that draws. -/
theorem step_update_new {ops : Array Oper} {o : Oper} {a : Act} {w : World} {K : Act → World → Prop} {Q : Exit → Act → World → Prop} {E : Prop} (hd : o.dst = none) (hg : o.guard = none) {T Kt Et : TypeId} (x y z : Operand) (ho : o.op = .mapUpdate T x y z)
    (m : Nat) (k v : Value) (l : List (Value × Value)) (hx : a.eval x = .map (some m)) (hy : a.eval y = k) (hz : a.eval z = v) (ht : Tryz.prog.underlying T = some (.map Kt Et)) (h : MapAt w m l)
    (hck : ∀ w, (Instr.checkKey false 10000 Kt k).run Tryz.prog w = .ok () w) (hn : NoKey Kt k l)
    (hK : K a (putMap w m (l ++ [(k, v)]))) : if Region.wanted o (yielded ops a.tmps) = true then Oper.wp Tryz.prog o a w K Q else E := by
  have hw : Region.wanted o (yielded ops a.tmps) = true := by simp [Region.wanted, hg]
  rw [if_pos hw]
  have hrun := run_update_new (v := v) ht h hck hn
  unfold Oper.wp
  simp [execOp, ho, hx, hy, hz, hrun, Result.andThen]
  show K (a.put o.dst undef) _
  rw [hd]
  exact hK
end Go.Proofs.YthhfakkfdohcpaaGreat
