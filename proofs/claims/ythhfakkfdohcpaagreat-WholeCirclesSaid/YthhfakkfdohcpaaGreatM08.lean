/- A statement of an analysis: a lock is taken or given back. No condition. -/
import Derived.Test.YthhfakkfdohcpaaGreatM07
import Derived.BigRegion
namespace Go.Proofs.YthhfakkfdohcpaaGreat
open Go.RowKit Go.ChangeMaps Go.MapKept
theorem check_pair (a b s : Int) : ∀ w, (Instr.checkKey false 10000 29 (.agg #[.int .i64 a, .int .i64 b, .int .i64 s])).run Tryz.prog w = .ok () w := fun w => by kernel_rfl
theorem PsAt.below {W W' : World} {base : Nat} {site : Int} {pr : Option (Int × Int)} {ps : Value} (h : PsAt W base site pr ps) (hb : Below W.heap.size W W') : PsAt W' base site pr ps := by
  cases pr with
  | none => exact h
  | some q =>
    obtain ⟨g, cap, h1, h2, h3⟩ := h
    exact ⟨g, cap, h1, h2, h3.below hb⟩
/-- What a statement says. -/
def saL (G A : Value) (r pa : Int) : List Value := fcL G A r r pa ++ deL ++ [.int .i64 0]
theorem saL_one {A1 A2 : Option Addr} {n1 n2 c1 c2 : Nat} {r pa : Int} : ∀ u ∈ saL (.slice A1 n1 c1) (.slice A2 n2 c2) r pa, u.oneCell' = true := by
  intro u hu
  simp only [saL, fcL, deL, List.cons_append, List.nil_append, List.mem_cons, List.not_mem_nil, or_false] at hu
  rcases hu with rfl | rfl | rfl | rfl | rfl | rfl | rfl | rfl | rfl | rfl | rfl | rfl | rfl | rfl | rfl | rfl | rfl <;> rfl
def saZ : List Value := zeroL ++ zeroL ++ [.int .i64 0]
def prL : Option (Int × Int) → Int → List (Value × Value)
  | none, _ => []
  | some (a, c), site => [(.agg #[.int .i64 a, .int .i64 c, .int .i64 site], .bool true)]
/-- The keys of the facts. -/
def KeysOf (lx : List (Value × Value)) (ks : List Int) : Prop := lx.map (·.1) = ks.map (Value.int .i64)
set_option maxRecDepth 100000 in
set_option maxHeartbeats 8000000 in
theorem stmt_any (b : Nat → Nat) (As : Option Addr) (ns cs : Nat) (lv : Int) (hl : Lev lv) (op m v lks r : Int) (pr : Option (Int × Int)) (hk : Kd op m v lks r pr) (id ds : Int) (nm : ByteArray) (Ab : Option Addr) (nb cb : Nat) (site : Int) (Ag Aa : Option Addr) (cg ca : Nat) (hg : EmpA Ag cg) (pa : Int)
    (x mf mp mr mx : Nat) (lk lk' : Int) (rs es : Value) (lp lx : List (Value × Value)) (ks : List Int) (hks : KeysOf lx ks) (hsite : site ∉ ks) (hlk : bits BinOp.or .i64 lk lks = lk') (hpr : pr ≠ none → lp = []) (w : World)
    (h : An w x mf mp mr mx lk rs es b lv id ds (.string nm) (.slice Ab nb cb) (.slice As ns cs) lp lx) :
    Calls Tryz.prog 112 #[.pointer (some ⟨x, 0, none⟩), .agg (stL site op m).toArray, .agg (fcL (.slice Ag 0 cg) (.slice Aa 0 ca) v v pa).toArray] w fun e w' => ∃ A c, e = .returned (.agg (saL (.slice A 0 c) (.slice Aa 0 ca) r pa).toArray) ∧ EmpA A c ∧
      An w' x mf mp mr mx lk' rs es b lv id ds (.string nm) (.slice Ab nb cb) (.slice As ns cs) (lp ++ prL pr site) (lx ++ [(.int .i64 site, .agg (fcL (.slice Ag 0 cg) (.slice Aa 0 ca) v v pa).toArray)]) ∧ But (fun k => k = x ∨ k = mp ∨ k = mx) w w' := by
  have H := hide h; clear h
  have Hk := hide hk; clear hk
  have Hl := hide hl; clear hl
  have Hg := hide hg; clear hg
  have Hks := hide hks; clear hks
  have Hsite := hide hsite; clear hsite
  have Hlk := hide hlk; clear hlk
  have Hpr := hide hpr; clear hpr
  go_enter Tryz.func112, Tryz.ntmps112
  simp only [stL, fcL]
  go_upto_region 1 with (fail)
  obtain ⟨W, hW⟩ : ∃ V, V = ((w.alloc (.cells (stL site op m).toArray 121)).alloc (.cells (fcL (.slice Ag 0 cg) (.slice Aa 0 ca) v v pa).toArray 164)).alloc (.cells saZ.toArray 166) := ⟨_, rfl⟩
  have hb3 := boxes3 w _ _ _ _ _ _ W hW
  have hW' := hW
  simp only [stL, fcL, saZ, zeroL, List.cons_append, List.nil_append] at hW'
  rw [← hW']
  clear hW hW'
  obtain ⟨b4, b5, b6, hz, hbW⟩ := hb3
  have B4 := hide b4
  have B5 := hide b5
  have B6 := hide b6
  have H1 := hide (H.out.below hbW)
  have HbW := hide hbW
  have Hz := hide hz
  clear b4 b5 b6 hbW hz
  have k32 : W.cell? ⟨x, 32, none⟩ = some (.int .i64 0) := H1.out.box.1 32 _ rfl
  go_upto_region 2 with (fail)
  refine wp_region_held_drew (S := fun w' => BoxAt w' w.heap.size (stL site op m) ∧ BoxAt w' (w.heap.size + 1) (fcL (.slice Ag 0 cg) (.slice Aa 0 ca) v v pa) ∧ BoxAt w' x (anL mf mp mr lk rs es mx b lv id ds (.string nm) (.slice Ab nb cb) (.slice As ns cs))) (by kernel_rfl) ?_ (fun hHeld => ?_)
  · exact ⟨B4.out.drew, B5.out.drew, H1.out.box.drew⟩
  refine take_as 0 (some 19) (v := ?_) rfl rfl (by kernel_rfl) (by kernel_rfl) (by kernel_rfl) (fun _ _ _ h => h) (Or.inl ⟨by rfl, ?_⟩) (by assumption) ?_
  rotate_left 1
  · intro w2 hSw
    go_simp
    try with_reducible rfl
  try simp only [Act.put, List.setIfInBounds_toArray, List.set_cons_zero, List.set_cons_succ]
  refine take_as 1 (some 20) (v := ?_) rfl rfl (by kernel_rfl) (by kernel_rfl) (by kernel_rfl) (fun _ _ _ h => h) (Or.inl ⟨by rfl, ?_⟩) (by assumption) ?_
  rotate_left 1
  · intro w2 hSw
    go_simp
    try with_reducible rfl
  try simp only [Act.put, List.setIfInBounds_toArray, List.set_cons_zero, List.set_cons_succ]
  refine take_as 2 (some 21) (v := ?_) rfl rfl (by kernel_rfl) (by kernel_rfl) (by kernel_rfl) (fun _ _ _ h => h) (Or.inl ⟨by rfl, ?_⟩) (by assumption) ?_
  rotate_left 1
  · intro w2 hSw
    go_simp
    try with_reducible rfl
  try simp only [Act.put, List.setIfInBounds_toArray, List.set_cons_zero, List.set_cons_succ]
  refine take_as 3 (some 22) (v := ?_) rfl rfl (by kernel_rfl) (by kernel_rfl) (by kernel_rfl) (fun _ _ _ h => h) (Or.inl ⟨by rfl, ?_⟩) (by assumption) ?_
  rotate_left 1
  · intro w2 hSw
    go_simp
    try with_reducible rfl
  try simp only [Act.put, List.setIfInBounds_toArray, List.set_cons_zero, List.set_cons_succ]
  refine take_as 4 (some 23) (v := ?_) rfl rfl (by kernel_rfl) (by kernel_rfl) (by kernel_rfl) (fun _ _ _ h => h) (Or.inl ⟨by rfl, ?_⟩) (by assumption) ?_
  rotate_left 1
  · intro w2 hSw
    have hl := hSw.2.2.1 6 _ rfl
    go_simp
    try with_reducible rfl
  try simp only [Act.put, List.setIfInBounds_toArray, List.set_cons_zero, List.set_cons_succ]
  refine take_as 5 (some 24) (v := ?_) rfl rfl (by kernel_rfl) (by kernel_rfl) (by kernel_rfl) (fun _ _ _ h => h) (Or.inl ⟨by rfl, ?_⟩) (by assumption) ?_
  rotate_left 1
  · intro w2 hSw
    go_simp
    try with_reducible rfl
  try simp only [Act.put, List.setIfInBounds_toArray, List.set_cons_zero, List.set_cons_succ]
  refine take_as 6 (some 25) (v := ?_) rfl rfl (by kernel_rfl) (by kernel_rfl) (by kernel_rfl) (fun _ _ _ h => h) (Or.inl ⟨by rfl, ?_⟩) (by assumption) ?_
  rotate_left 1
  · intro w2 hSw
    have hl := hSw.1.1 0 _ rfl
    go_simp
    try with_reducible rfl
  try simp only [Act.put, List.setIfInBounds_toArray, List.set_cons_zero, List.set_cons_succ]
  refine take_as 7 (some 26) rfl rfl (by kernel_rfl) (by kernel_rfl) (by kernel_rfl) (fun _ _ _ h => h) (yieldsIf_load_mid (by rfl) 164 (.tmp 5) rfl (w.heap.size + 1) 0 rfl (fcL (.slice Ag 0 cg) (.slice Aa 0 ca) v v pa) _ (fun w2 h2 => h2.2.1.whole) Tryz.underlying164 rfl (by kernel_rfl)) (by assumption) ?_
  try simp only [Act.put, List.setIfInBounds_toArray, List.set_cons_zero, List.set_cons_succ]
  refine wpAnyH_ready (rs := [8]) (by kernel_rfl) (by simp) ?_
  refine AllReadyH.cons rfl (fun K hK => ?_) ?_
  · refine step_update_new rfl rfl (.tmp 23) (.tmp 25) (.tmp 26) rfl mx (.int .i64 site) (.agg (fcL (.slice Ag 0 cg) (.slice Aa 0 ca) v v pa).toArray) lx rfl rfl rfl Tryz.underlying155 H1.out.fct.drew (check_int _) (noKey_ints _ _ ks Hks.out Hsite.out) ?_
    have HA2 := hide (H1.out.drew.factsPut (lx ++ [(.int .i64 site, .agg (fcL (.slice Ag 0 cg) (.slice Aa 0 ca) v v pa).toArray)]))
    have hp2 := putMap_but (lx ++ [(.int .i64 site, .agg (fcL (.slice Ag 0 cg) (.slice Aa 0 ca) v v pa).toArray)]) H1.out.drew.fct
    have hx2 := Hz.out
    have hm2 := H.out.fct.lt
    have HB4 := hide (B4.out.drew.but hp2 (by omega))
    have HB5 := hide (B5.out.drew.but hp2 (by omega))
    have HB6 := hide (B6.out.drew.but hp2 (by omega))
    have HT2 : Hid (But (fun k => k = x ∨ k = mp ∨ k = mx) W (putMap W.drew mx (lx ++ [(.int .i64 site, .agg (fcL (.slice Ag 0 cg) (.slice Aa 0 ca) v v pa).toArray)]))) := hide (((But.refl _ W).drew).trans (hp2.mono (fun k hk => .inr (.inr hk))))
    clear hp2 hx2 hm2
    refine hK.out _ _ ?_ (fun hHeld => ?_)
    · exact ⟨HB4.out, HB5.out, HA2.out.box⟩
    clear hK K
    try simp only [Act.put, List.setIfInBounds_toArray, List.set_cons_zero, List.set_cons_succ]
    refine wpAnyH_done (by kernel_rfl) ?_ _
    obtain ⟨V, hV⟩ : ∃ V, V = putMap W.drew mx (lx ++ [(.int .i64 site, .agg (fcL (.slice Ag 0 cg) (.slice Aa 0 ca) v v pa).toArray)]) := ⟨_, rfl⟩
    rw [← hV] at HA2 HB4 HB5 HB6 HT2 ⊢
    clear hV hHeld k32 H1 B4 B5 B6
    go_upto_region 3 with (fail)
    refine wp_region_held_drew (S := fun w' => BoxAt w' w.heap.size (stL site op m)) (by kernel_rfl) ?_ (fun hHeld => ?_)
    · exact HB4.out.drew
    refine take_as 0 (some 28) (v := ?_) rfl rfl (by kernel_rfl) (by kernel_rfl) (by kernel_rfl) (fun _ _ _ h => h) (Or.inl ⟨by rfl, ?_⟩) (by assumption) ?_
    rotate_left 1
    · intro w2 hSw
      go_simp
      try with_reducible rfl
    try simp only [Act.put, List.setIfInBounds_toArray, List.set_cons_zero, List.set_cons_succ]
    refine take_as 2 (some 30) (v := ?_) rfl rfl (by kernel_rfl) (by kernel_rfl) (by kernel_rfl) (fun _ _ _ h => h) (Or.inl ⟨by rfl, ?_⟩) (by assumption) ?_
    rotate_left 1
    · intro w2 hSw
      go_simp
      try with_reducible rfl
    try simp only [Act.put, List.setIfInBounds_toArray, List.set_cons_zero, List.set_cons_succ]
    refine take_as 3 (some 31) (v := ?_) rfl rfl (by kernel_rfl) (by kernel_rfl) (by kernel_rfl) (fun _ _ _ h => h) (Or.inl ⟨by rfl, ?_⟩) (by assumption) ?_
    rotate_left 1
    · intro w2 hSw
      have hl := hSw.1 1 _ rfl
      go_simp
      try with_reducible rfl
    try simp only [Act.put, List.setIfInBounds_toArray, List.set_cons_zero, List.set_cons_succ]
    refine wpAnyH_ready (rs := [1]) (by kernel_rfl) (by simp) ?_
    refine AllReadyH.cons rfl (fun K hK => ?_) ?_
    · go_simp
      refine (kinds_any x _).mono ?_
      rintro e w2 ⟨g, rfl, hg2, hm2, hb2⟩
      have hB2 : Below V.heap.size V w2 := Below.trans (Below.refl _ V).drew hb2
      have HM2 := hide hm2
      have HA3 := hide (HA2.out.below hB2)
      have HC4 := hide (HB4.out.below hB2)
      have HC5 := hide (HB5.out.below hB2)
      have HC6 := hide (HB6.out.below hB2)
      have HT3 := hide (HT2.out.afterBelow hB2)
      clear hg2 hm2 hb2 hB2
      go_wp2_with fail
      refine hK.out _ _ ?_ (fun hHeld => ?_)
      · exact HC4.out
      clear hK K
      try simp only [Act.put, List.setIfInBounds_toArray, List.set_cons_zero, List.set_cons_succ]
      refine wpAnyH_ready (rs := [4]) (by kernel_rfl) (by simp) ?_
      refine AllReadyH.cons rfl (fun K hK => ?_) ?_
      · refine step_lookup_miss (some 32) rfl rfl (.tmp 29) (.tmp 31) true rfl g (.int .i64 op) .nilFunc (kiL x) rfl rfl Tryz.underlying240 HM2.out (check_int _) (noKey_ints _ (kiL x) [11, 12, 15, 24] rfl (by rcases Hk.out.op with e | e <;> rw [e] <;> decide)) (fun w => by kernel_rfl) ?_
        refine hK.out _ _ ?_ (fun hHeld => ?_)
        · exact HC4.out
        clear hK K
        try simp only [Act.put, List.setIfInBounds_toArray, List.set_cons_zero, List.set_cons_succ]
        refine take_as 5 (some 27) (v := ?_) rfl rfl (by kernel_rfl) (by kernel_rfl) (by kernel_rfl) (fun _ _ _ h => h) (Or.inl ⟨by rfl, ?_⟩) (by assumption) ?_
        rotate_left 1
        · intro w2 hSw
          go_simp
          try with_reducible rfl
        try simp only [Act.put, List.setIfInBounds_toArray, List.set_cons_zero, List.set_cons_succ]
        refine take_as 6 (some 33) (v := ?_) rfl rfl (by kernel_rfl) (by kernel_rfl) (by kernel_rfl) (fun _ _ _ h => h) (Or.inl ⟨by rfl, ?_⟩) (by assumption) ?_
        rotate_left 1
        · intro w2 hSw
          go_simp
          try with_reducible rfl
        try simp only [Act.put, List.setIfInBounds_toArray, List.set_cons_zero, List.set_cons_succ]
        refine take_as 7 (some 34) (v := ?_) rfl rfl (by kernel_rfl) (by kernel_rfl) (by kernel_rfl) (fun _ _ _ h => h) (Or.inl ⟨by rfl, ?_⟩) (by assumption) ?_
        rotate_left 1
        · intro w2 hSw
          go_simp
          try with_reducible rfl
        try simp only [Act.put, List.setIfInBounds_toArray, List.set_cons_zero, List.set_cons_succ]
        refine take_as 8 (some 7) (v := ?_) rfl rfl (by kernel_rfl) (by kernel_rfl) (by kernel_rfl) (fun _ _ _ h => h) (Or.inl ⟨by rfl, ?_⟩) (by assumption) ?_
        rotate_left 1
        · intro w2 hSw
          go_simp
          try with_reducible rfl
        try simp only [Act.put, List.setIfInBounds_toArray, List.set_cons_zero, List.set_cons_succ]
        refine take_as 9 (some 8) (v := ?_) rfl rfl (by kernel_rfl) (by kernel_rfl) (by kernel_rfl) (fun _ _ _ h => h) (Or.inl ⟨by rfl, ?_⟩) (by assumption) ?_
        rotate_left 1
        · intro w2 hSw
          go_simp
          try with_reducible rfl
        try simp only [Act.put, List.setIfInBounds_toArray, List.set_cons_zero, List.set_cons_succ]
        refine wpAnyH_done (by kernel_rfl) ?_ _
        go_upto_region 6 with (fail)
        have HSk : Hid (∀ w' : World, Below w2.heap.size w2 w' → (BoxAt w' w.heap.size (stL site op m) ∧ BoxAt w' (w.heap.size + 1) (fcL (.slice Ag 0 cg) (.slice Aa 0 ca) v v pa) ∧ BoxAt w' x (anL mf mp mr lk rs es mx b lv id ds (.string nm) (.slice Ab nb cb) (.slice As ns cs)))) := hide (fun w' hb => ⟨HC4.out.below hb, HC5.out.below hb, HA3.out.box.below hb⟩)
        go_cut [9] (fun t wx => ∃ A2 c2 ps g9, t = .pointer (some ⟨g9, 0, none⟩) ∧ EmpA A2 c2 ∧ PsAt wx w2.heap.size site pr ps ∧ BoxAt wx g9 (spL (.slice A2 0 c2) (.slice Aa 0 ca) r pa lks ps) ∧ w2.heap.size ≤ g9 ∧ Below w2.heap.size w2 wx)
        case first =>
          refine wp_region_held_drew (S := fun w' => BoxAt w' w.heap.size (stL site op m) ∧ BoxAt w' (w.heap.size + 1) (fcL (.slice Ag 0 cg) (.slice Aa 0 ca) v v pa) ∧ BoxAt w' x (anL mf mp mr lk rs es mx b lv id ds (.string nm) (.slice Ab nb cb) (.slice As ns cs))) (by kernel_rfl) ?_ (fun hHeld => ?_)
          · exact HSk.out _ (Below.refl _ _).drew
          refine take_as 0 (some 40) (v := ?_) rfl rfl (by kernel_rfl) (by kernel_rfl) (by kernel_rfl) (fun _ _ _ h => h) (Or.inl ⟨by rfl, ?_⟩) (by assumption) ?_
          rotate_left 1
          · intro w2 hSw
            go_simp
            try with_reducible rfl
          try simp only [Act.put, List.setIfInBounds_toArray, List.set_cons_zero, List.set_cons_succ]
          refine take_as 1 (some 41) (v := ?_) rfl rfl (by kernel_rfl) (by kernel_rfl) (by kernel_rfl) (fun _ _ _ h => h) (Or.inl ⟨by rfl, ?_⟩) (by assumption) ?_
          rotate_left 1
          · intro w2 hSw
            go_simp
            try with_reducible rfl
          try simp only [Act.put, List.setIfInBounds_toArray, List.set_cons_zero, List.set_cons_succ]
          refine take_as 2 (some 42) (v := ?_) rfl rfl (by kernel_rfl) (by kernel_rfl) (by kernel_rfl) (fun _ _ _ h => h) (Or.inl ⟨by rfl, ?_⟩) (by assumption) ?_
          rotate_left 1
          · intro w2 hSw
            go_simp
            try with_reducible rfl
          try simp only [Act.put, List.setIfInBounds_toArray, List.set_cons_zero, List.set_cons_succ]
          refine take_as 3 (some 43) rfl rfl (by kernel_rfl) (by kernel_rfl) (by kernel_rfl) (fun _ _ _ h => h) (yieldsIf_load_mid (by rfl) 48 (.tmp 42) rfl x 7 rfl (pgL b) _ (fun w2 h2 => h2.2.2.sub 7 _ rfl) Tryz.underlying48 rfl (by kernel_rfl)) (by assumption) ?_
          try simp only [Act.put, List.setIfInBounds_toArray, List.set_cons_zero, List.set_cons_succ]
          refine take_as 4 (some 44) (v := ?_) rfl rfl (by kernel_rfl) (by kernel_rfl) (by kernel_rfl) (fun _ _ _ h => h) (Or.inl ⟨by rfl, ?_⟩) (by assumption) ?_
          rotate_left 1
          · intro w2 hSw
            go_simp
            try with_reducible rfl
          try simp only [Act.put, List.setIfInBounds_toArray, List.set_cons_zero, List.set_cons_succ]
          refine take_as 5 (some 45) (v := ?_) rfl rfl (by kernel_rfl) (by kernel_rfl) (by kernel_rfl) (fun _ _ _ h => h) (Or.inl ⟨by rfl, ?_⟩) (by assumption) ?_
          rotate_left 1
          · intro w2 hSw
            go_simp
            try with_reducible rfl
          try simp only [Act.put, List.setIfInBounds_toArray, List.set_cons_zero, List.set_cons_succ]
          refine take_as 6 (some 46) (v := ?_) rfl rfl (by kernel_rfl) (by kernel_rfl) (by kernel_rfl) (fun _ _ _ h => h) (Or.inl ⟨by rfl, ?_⟩) (by assumption) ?_
          rotate_left 1
          · intro w2 hSw
            go_simp
            try with_reducible rfl
          try simp only [Act.put, List.setIfInBounds_toArray, List.set_cons_zero, List.set_cons_succ]
          refine take_as 7 (some 47) rfl rfl (by kernel_rfl) (by kernel_rfl) (by kernel_rfl) (fun _ _ _ h => h) (yieldsIf_load_mid (by rfl) 52 (.tmp 46) rfl x 17 rfl [.int .i64 lv, .slice none 0 0] _ (fun w2 h2 => h2.2.2.sub 17 _ rfl) Tryz.underlying52 rfl (by kernel_rfl)) (by assumption) ?_
          try simp only [Act.put, List.setIfInBounds_toArray, List.set_cons_zero, List.set_cons_succ]
          refine take_as 8 (some 48) (v := ?_) rfl rfl (by kernel_rfl) (by kernel_rfl) (by kernel_rfl) (fun _ _ _ h => h) (Or.inl ⟨by rfl, ?_⟩) (by assumption) ?_
          rotate_left 1
          · intro w2 hSw
            go_simp
            try with_reducible rfl
          try simp only [Act.put, List.setIfInBounds_toArray, List.set_cons_zero, List.set_cons_succ]
          refine take_as 9 (some 49) (v := ?_) rfl rfl (by kernel_rfl) (by kernel_rfl) (by kernel_rfl) (fun _ _ _ h => h) (Or.inl ⟨by rfl, ?_⟩) (by assumption) ?_
          rotate_left 1
          · intro w2 hSw
            go_simp
            try with_reducible rfl
          try simp only [Act.put, List.setIfInBounds_toArray, List.set_cons_zero, List.set_cons_succ]
          refine take_as 10 (some 50) (v := ?_) rfl rfl (by kernel_rfl) (by kernel_rfl) (by kernel_rfl) (fun _ _ _ h => h) (Or.inl ⟨by rfl, ?_⟩) (by assumption) ?_
          rotate_left 1
          · intro w2 hSw
            go_simp
            try with_reducible rfl
          try simp only [Act.put, List.setIfInBounds_toArray, List.set_cons_zero, List.set_cons_succ]
          refine take_as 11 (some 51) rfl rfl (by kernel_rfl) (by kernel_rfl) (by kernel_rfl) (fun _ _ _ h => h) (yieldsIf_load_mid (by rfl) 83 (.tmp 50) rfl x 19 rfl (dfL id ds (.string nm) (.slice Ab nb cb)) _ (fun w2 h2 => h2.2.2.sub 19 _ rfl) Tryz.underlying83 rfl (by kernel_rfl)) (by assumption) ?_
          try simp only [Act.put, List.setIfInBounds_toArray, List.set_cons_zero, List.set_cons_succ]
          refine take_as 12 (some 52) rfl rfl (by kernel_rfl) (by kernel_rfl) (by kernel_rfl) (fun _ _ _ h => h) (yieldsIf_load_mid (by rfl) 121 (.tmp 4) rfl w.heap.size 0 rfl (stL site op m) _ (fun w2 h2 => h2.1.whole) Tryz.underlying121 rfl (by kernel_rfl)) (by assumption) ?_
          try simp only [Act.put, List.setIfInBounds_toArray, List.set_cons_zero, List.set_cons_succ]
          refine take_as 13 (some 53) rfl rfl (by kernel_rfl) (by kernel_rfl) (by kernel_rfl) (fun _ _ _ h => h) (yieldsIf_load_mid (by rfl) 164 (.tmp 5) rfl (w.heap.size + 1) 0 rfl (fcL (.slice Ag 0 cg) (.slice Aa 0 ca) v v pa) _ (fun w2 h2 => h2.2.1.whole) Tryz.underlying164 rfl (by kernel_rfl)) (by assumption) ?_
          try simp only [Act.put, List.setIfInBounds_toArray, List.set_cons_zero, List.set_cons_succ]
          refine take_as 14 (some 54) (v := ?_) rfl rfl (by kernel_rfl) (by kernel_rfl) (by kernel_rfl) (fun _ _ _ h => h) (Or.inl ⟨by rfl, ?_⟩) (by assumption) ?_
          rotate_left 1
          · intro w2 hSw
            go_simp
            try with_reducible rfl
          try simp only [Act.put, List.setIfInBounds_toArray, List.set_cons_zero, List.set_cons_succ]
          refine take_as 15 (some 55) (v := ?_) rfl rfl (by kernel_rfl) (by kernel_rfl) (by kernel_rfl) (fun _ _ _ h => h) (Or.inl ⟨by rfl, ?_⟩) (by assumption) ?_
          rotate_left 1
          · intro w2 hSw
            go_simp
            try with_reducible rfl
          try simp only [Act.put, List.setIfInBounds_toArray, List.set_cons_zero, List.set_cons_succ]
          refine take_as 16 (some 56) (v := ?_) rfl rfl (by kernel_rfl) (by kernel_rfl) (by kernel_rfl) (fun _ _ _ h => h) (Or.inl ⟨by rfl, ?_⟩) (by assumption) ?_
          rotate_left 1
          · intro w2 hSw
            go_simp
            try with_reducible rfl
          try simp only [Act.put, List.setIfInBounds_toArray, List.set_cons_zero, List.set_cons_succ]
          refine take_as 17 (some 57) (v := ?_) rfl rfl (by kernel_rfl) (by kernel_rfl) (by kernel_rfl) (fun _ _ _ h => h) (Or.inl ⟨by rfl, ?_⟩) (by assumption) ?_
          rotate_left 1
          · intro w2 hSw
            have hl := hSw.2.2.1 31 _ rfl
            go_simp
            try with_reducible rfl
          try simp only [Act.put, List.setIfInBounds_toArray, List.set_cons_zero, List.set_cons_succ]
          refine wpAnyH_ready (rs := [18, 19]) (by kernel_rfl) (by simp) ?_
          refine AllReadyH.cons rfl (fun K hK => ?_) ?_
          · go_simp
            refine (simple_any b As ns cs lv Hl.out op m v lks r pr Hk.out id ds nm Ab nb cb site Ag Aa cg ca Hg.out pa _).mono ?_
            rintro e w3 ⟨A2, c2, ps, rfl, hA2, hps, hb3⟩
            have HB3 : Hid (Below w2.heap.size w2 w3) := hide (Below.trans (by exact (by repeat (first | with_reducible exact Below.refl _ _ | with_reducible refine Below.setCell ?_ (by simp <;> omega) _ | with_reducible refine below_drewN ?_ _ | with_reducible refine Below.drew ?_ | with_reducible refine Below.alloc ?_ (by simp <;> omega) _ | with_reducible refine Below.setCell ?_ (by simp <;> omega) _ | with_reducible refine Below.alloc ?_ (by simp <;> omega) _ | omega | (simp; done)))) (hb3.mono (by simp)))
            have hs3 := HB3.out.size
            have HP3 : Hid (PsAt w3 w2.heap.size site pr ps) := hide (hps.mono (by simp))
            clear hps hb3
            go_wp2_with fail
            refine hK.out _ _ ?_ (fun hHeld => ?_)
            · exact HSk.out _ HB3.out
            clear hK K
            try simp only [Act.put, List.setIfInBounds_toArray, List.set_cons_zero, List.set_cons_succ]
            refine wpAnyH_ready (rs := [19]) (by kernel_rfl) (by simp) ?_
            refine AllReadyH.cons rfl (fun K hK => ?_) ?_
            · go_simp
              have HZ3 := hide (BoxAt.new w3 stepZ 243)
              refine hK.out _ _ ?_ (fun hHeld => ?_)
              · (refine HSk.out _ ?_; exact (by repeat (first | with_reducible exact HB3.out | with_reducible exact Below.refl _ _ | with_reducible refine Below.setCell ?_ (by simp <;> omega) _ | with_reducible refine below_drewN ?_ _ | with_reducible refine Below.drew ?_ | with_reducible refine Below.alloc ?_ (by simp <;> omega) _ | with_reducible refine Below.setCell ?_ (by simp <;> omega) _ | with_reducible refine Below.alloc ?_ (by simp <;> omega) _ | with_reducible refine Below.setCell ?_ (by omega) _ | with_reducible refine Below.alloc ?_ (by omega) _ | omega | (simp; done))))
              clear hK K
              try simp only [Act.put, List.setIfInBounds_toArray, List.set_cons_zero, List.set_cons_succ]
              refine wpAnyH_ready (rs := [20]) (by kernel_rfl) (by simp) ?_
              refine AllReadyH.cons rfl (fun K hK => ?_) ?_
              · refine step_store_as rfl rfl 243 (.tmp 9) (.tmp 58) rfl w3.heap.size 0 (spL (.slice A2 0 c2) (.slice Aa 0 ca) r pa lks ps).toArray rfl rfl (HZ3.out.there 0 _ (by show 0 + 21 ≤ 21; decide)) (by kernel_rfl) (all_oneCell_toArray (spL_one HP3.out.one)) ?_
                refine after_put 0 (spL (.slice A2 0 c2) (.slice Aa 0 ca) r pa lks ps) _ HZ3.out (by show 0 + 21 ≤ 21; decide) rfl (fun V5 hV5 hT5 => ?_)
                have HV5 := hide hV5
                have hb5 : Below w3.heap.size w3 V5 := ((Below.refl _ w3).alloc (Nat.le_refl _) _).trans (hT5.below (by simp) (fun k hk => by omega))
                have HB5 : Hid (Below w2.heap.size w2 V5) := hide (HB3.out.trans (hb5.mono hs3))
                have HP5 : Hid (PsAt V5 w2.heap.size site pr ps) := hide (HP3.out.below hb5)
                clear hb5
                clear hV5 hT5
                refine hK.out _ _ ?_ (fun hHeld => ?_)
                · exact HSk.out _ HB5.out
                clear hK K
                try simp only [Act.put, List.setIfInBounds_toArray, List.set_cons_zero, List.set_cons_succ]
                refine wpAnyH_done (by kernel_rfl) ?_ _
                go_wp2_with fail
                go_meet
                exact ⟨A2, c2, ps, w3.heap.size, rfl, hA2, HP5.out, HV5.out, by omega, HB5.out⟩
              exact AllReadyH.nil
            exact AllReadyH.nil
          refine AllReadyH.cons rfl (fun K hK => ?_) ?_
          · go_simp
            have HZ := hide (BoxAt.new w2 stepZ 243)
            refine hK.out _ _ ?_ (fun hHeld => ?_)
            · (refine HSk.out _ ?_; exact (by repeat (first | with_reducible exact Below.refl _ _ | with_reducible refine Below.setCell ?_ (by simp <;> omega) _ | with_reducible refine below_drewN ?_ _ | with_reducible refine Below.drew ?_ | with_reducible refine Below.alloc ?_ (by simp <;> omega) _ | with_reducible refine Below.setCell ?_ (by simp <;> omega) _ | with_reducible refine Below.alloc ?_ (by simp <;> omega) _ | omega | (simp; done))))
            clear hK K
            try simp only [Act.put, List.setIfInBounds_toArray, List.set_cons_zero, List.set_cons_succ]
            refine wpAnyH_ready (rs := [18]) (by kernel_rfl) (by simp) ?_
            refine AllReadyH.cons rfl (fun K hK => ?_) ?_
            · go_simp
              refine (simple_any b As ns cs lv Hl.out op m v lks r pr Hk.out id ds nm Ab nb cb site Ag Aa cg ca Hg.out pa _).mono ?_
              rintro e w3 ⟨A2, c2, ps, rfl, hA2, hps, hb3⟩
              have HB3 : Hid (Below w2.heap.size w2 w3) := hide (Below.trans (by exact (by repeat (first | with_reducible exact Below.refl _ _ | with_reducible refine Below.setCell ?_ (by simp <;> omega) _ | with_reducible refine below_drewN ?_ _ | with_reducible refine Below.drew ?_ | with_reducible refine Below.alloc ?_ (by simp <;> omega) _ | with_reducible refine Below.setCell ?_ (by simp <;> omega) _ | with_reducible refine Below.alloc ?_ (by simp <;> omega) _ | omega | (simp; done)))) (hb3.mono (by simp)))
              have hs3 := HB3.out.size
              have HZ3 := hide (HZ.out.drew.below hb3)
              have HP3 : Hid (PsAt w3 (w2.heap.size + 1) site pr ps) := hide (hps.mono (by simp))
              clear hps hb3
              go_wp2_with fail
              refine hK.out _ _ ?_ (fun hHeld => ?_)
              · exact HSk.out _ HB3.out
              clear hK K
              try simp only [Act.put, List.setIfInBounds_toArray, List.set_cons_zero, List.set_cons_succ]
              refine wpAnyH_ready (rs := [20]) (by kernel_rfl) (by simp) ?_
              refine AllReadyH.cons rfl (fun K hK => ?_) ?_
              · refine step_store_as rfl rfl 243 (.tmp 9) (.tmp 58) rfl w2.heap.size 0 (spL (.slice A2 0 c2) (.slice Aa 0 ca) r pa lks ps).toArray rfl rfl (HZ3.out.there 0 _ (by show 0 + 21 ≤ 21; decide)) (by kernel_rfl) (all_oneCell_toArray (spL_one HP3.out.one)) ?_
                refine after_put 0 (spL (.slice A2 0 c2) (.slice Aa 0 ca) r pa lks ps) _ HZ3.out (by show 0 + 21 ≤ 21; decide) rfl (fun V5 hV5 hT5 => ?_)
                have HV5 := hide hV5
                have HB5 : Hid (Below w2.heap.size w2 V5) := hide (HB3.out.trans (hT5.below hs3 (fun k hk => by omega)))
                have HP5 : Hid (PsAt V5 w2.heap.size site pr ps) := hide ((HP3.out.but hT5 (fun k hk => by omega)).mono (by omega))
                clear hV5 hT5
                refine hK.out _ _ ?_ (fun hHeld => ?_)
                · exact HSk.out _ HB5.out
                clear hK K
                try simp only [Act.put, List.setIfInBounds_toArray, List.set_cons_zero, List.set_cons_succ]
                refine wpAnyH_done (by kernel_rfl) ?_ _
                go_wp2_with fail
                go_meet
                exact ⟨A2, c2, ps, w2.heap.size, rfl, hA2, HP5.out, HV5.out, by omega, HB5.out⟩
              exact AllReadyH.nil
            exact AllReadyH.nil
          exact AllReadyH.nil
        case rest =>
          obtain ⟨A2, c2, ps, g9, rfl, hA2, hP, hV5, hg9, hB5⟩ := hcut
          obtain ⟨V5, hV⟩ : ∃ V : World, V = wc := ⟨_, rfl⟩
          rw [← hV] at hP hV5 hB5 ⊢
          clear hV
          have HA := hide (HA3.out.below hB5)
          have HD6 := hide (HC6.out.below hB5)
          have HG := hide hV5
          have HP := hide hP
          have HT5 := hide (HT3.out.afterBelow hB5)
          have hgx : x < w2.heap.size := HA3.out.box.2.2
          have hd6 : w.heap.size + 1 + 1 < w2.heap.size := HC6.out.2.2
          have hw2 : w.heap.size ≤ w2.heap.size := by omega
          clear hP hV5 hB5 HC4 HC5 HC6 HSk HM2 HA2 HA3 HB4 HB5 HB6 HT2 HT3
          have c3 : V5.cell? ⟨x, 3, none⟩ = some (.int .i64 lk) := HA.out.box.1 3 _ rfl
          have c32 : V5.cell? ⟨x, 32, none⟩ = some (.int .i64 0) := HA.out.box.1 32 _ rfl
          have c17 : V5.cell? ⟨g9, 17, none⟩ = some (.int .i64 lks) := HG.out.1 17 _ rfl
          have fx := HA.out.box.2.1
          have hlk2 := Hlk.out
          go_upto_region 8 with (fail)
          go_big_region
          obtain ⟨V6, hV6⟩ : ∃ V, V = (V5.setCell ⟨x, 3, none⟩ (.int .i64 lk')).drew := ⟨_, rfl⟩
          have hT6 : But (fun k => k = x ∨ k = mp ∨ k = mx) V5 V6 := by rw [hV6]; exact (But.setCell (S := fun k => k = x ∨ k = mp ∨ k = mx) (p := ⟨x, 3, none⟩) (But.refl _ V5) (.inl rfl) _).drew
          have hA6 := HA.out.setLk lk'
          have HA6 := hide (show An V6 x mf mp mr mx lk' rs es b lv id ds (.string nm) (.slice Ab nb cb) (.slice As ns cs) lp (lx ++ [(.int .i64 site, .agg (fcL (.slice Ag 0 cg) (.slice Aa 0 ca) v v pa).toArray)]) by rw [hV6]; exact hA6.drew)
          have HG6 := hide (show BoxAt V6 g9 (spL (.slice A2 0 c2) (.slice Aa 0 ca) r pa lks ps) by rw [hV6]; exact (HG.out.other (by omega) _).drew)
          have HD7 := hide (show BoxAt V6 (w.heap.size + 1 + 1) saZ by rw [hV6]; exact (HD6.out.other (by have := H.out.box.2.2; omega) _).drew)
          have HP6 := hide (HP.out.but hT6 (fun k hk => by have := H.out.prs.lt; have := H.out.fct.lt; omega))
          have HT6 := hide (HT5.out.trans hT6)
          rw [← hV6]
          clear hV6 hA6 hT6 c3 c32 c17 fx hlk2 HA HG HD6 HT5 HP
          have c18 : V6.cell? ⟨g9, 18, none⟩ = some (.slice none 0 0) := HG6.out.1 18 _ rfl
          have c20 : V6.cell? ⟨g9, 20, none⟩ = some (.slice none 0 0) := HG6.out.1 20 _ rfl
          have hps := HP6.out
          cases pr with
          | none =>
            obtain rfl : ps = .slice none 0 0 := hps
            have c19 : V6.cell? ⟨g9, 19, none⟩ = some (.slice none 0 0) := HG6.out.1 19 _ rfl
            go_wp2_with fail
            refine wp_loop_rounds 1 ?_
            rw [rounds_succ]
            go_wp2_with fail
            refine wp_loop_rounds 1 ?_
            rw [rounds_succ]
            go_wp2_with (first
                | (go_at_call 130; refine (used_nil _ _).mono ?_; rintro e w7 ⟨rfl, hb7⟩; have HG7 := hide (HG6.out.below hb7); have HD8 := hide (HD7.out.below hb7); have HA7 := hide (HA6.out.below hb7); have HT7 := hide (HT6.out.afterBelow hb7); have c16 : w7.cell? ⟨g9, 16, none⟩ = some (.int .i64 0) := HG7.out.1 16 _ rfl; clear hb7)
                | ((with_reducible refine wpList_load_mid ?_ 164 (.tmp 107) ?_ g9 0 ?_ (fcL (.slice A2 0 c2) (.slice Aa 0 ca) r r pa) _ ?_ Tryz.underlying164 ?_ ?_ ?_); (focus rfl); (focus rfl); (focus rfl); (focus exact HG7.out.sub 0 _ rfl); (focus rfl); (focus kernel_rfl); simp only [fcL])
                | ((with_reducible refine wpList_load_mid ?_ 164 (.tmp 109) ?_ g9 8 ?_ deL _ ?_ Tryz.underlying164 ?_ ?_ ?_); (focus rfl); (focus rfl); (focus rfl); (focus exact HG7.out.sub 8 _ rfl); (focus rfl); (focus kernel_rfl); simp only [deL])
                | ((with_reducible refine wpList_store_in ?_ ?_ 166 (.tmp 6) (.tmp 113) ?_ (w.heap.size + 1 + 1) 0 saZ (saL (.slice A2 0 c2) (.slice Aa 0 ca) r pa) (saL (.slice A2 0 c2) (.slice Aa 0 ca) r pa) ?_ ?_ ?_ ?_ ?_ ?_ ?_ ?_); (focus rfl); (focus rfl); (focus rfl); (focus rfl); (focus rfl); (focus exact HD8.out); (focus (show 0 + 17 ≤ 17; decide)); (focus rfl); (focus kernel_rfl); (focus exact saL_one); intro V8 hV8 hT8; have HV8 := hide hV8; have HT8 := hide hT8; clear hV8 hT8))
            have hlt := H.out.lt
            have fA := HA7.out.apart HT8.out w.heap.size (fun k hk => by omega) hlt
            have fT : But (fun k => k = x ∨ k = mp ∨ k = mx) w V8 := ((Below.but HbW.out _).trans HT7.out).thenNew HT8.out (fun k hk => .inr (by omega))
            refine bodyPost_ret (res_box (cs := (saL (.slice A2 0 c2) (.slice Aa 0 ca) r pa)) rfl rfl HV8.out Tryz.underlying166 rfl (by kernel_rfl)) rfl ⟨A2, c2, rfl, hA2, ?_, fT⟩
            · rw [show lp ++ prL none site = lp from List.append_nil _]; exact fA
          | some q =>
            obtain ⟨a, c⟩ := q
            obtain ⟨gp, cap, rfl, hgp, hq⟩ := hps
            obtain rfl : lp = [] := Hpr.out (by simp)
            have c19 : V6.cell? ⟨g9, 19, none⟩ = some (.slice (some ⟨gp, 0, none⟩) 1 cap) := HG6.out.1 19 _ rfl
            have q0 : V6.cell? ⟨gp, 0, none⟩ = some (.int .i64 a) := hq.1 0 _ rfl
            have q1 : V6.cell? ⟨gp, 1, none⟩ = some (.int .i64 c) := hq.1 1 _ rfl
            have q2 : V6.cell? ⟨gp, 2, none⟩ = some (.int .i64 site) := hq.1 2 _ rfl
            have c1 : V6.cell? ⟨x, 1, none⟩ = some (.map (some mp)) := HA6.out.box.1 1 _ rfl
            clear hq HP6
            go_wp2_with fail
            refine wp_loop_rounds 1 ?_
            rw [rounds_succ]
            go_wp2_with fail
            refine wp_loop_rounds 2 ?_
            rw [rounds_succ]
            go_upto_region 17 with (fail)
            obtain ⟨V7, hV7⟩ : ∃ V, V = V6.alloc (.cells #[.int .i64 a, .int .i64 c, .int .i64 site] 29) := ⟨_, rfl⟩
            have hb7 : Below V6.heap.size V6 V7 := by rw [hV7]; exact (Below.refl _ _).alloc (Nat.le_refl _) _
            have HB7p := hide (show BoxAt V7 V6.heap.size [.int .i64 a, .int .i64 c, .int .i64 site] by rw [hV7]; exact BoxAt.new V6 [.int .i64 a, .int .i64 c, .int .i64 site] _)
            rw [← hV7]
            have HA7p := hide (HA6.out.below hb7)
            have HG7p := hide (HG6.out.below hb7)
            have HD7p := hide (HD7.out.below hb7)
            have HT7p := hide (HT6.out.afterBelow hb7)
            have hs6 : w2.heap.size ≤ V6.heap.size := by have := HG6.out.2.2; have := HT6.out.size; have := Hz.out; have := HD7.out.2.2; have := c1; omega
            clear hV7 hb7
            refine wp_region_held_drew (S := fun w' => w'.cell? ⟨x, 1, none⟩ = some (.map (some mp)) ∧ BoxAt w' V6.heap.size [.int .i64 a, .int .i64 c, .int .i64 site]) (by kernel_rfl) ?_ (fun hHeld => ?_)
            · exact ⟨HA7p.out.drew.box.1 1 _ rfl, HB7p.out.drew⟩
            refine take_as 0 (some 96) (v := ?_) rfl rfl (by kernel_rfl) (by kernel_rfl) (by kernel_rfl) (fun _ _ _ h => h) (Or.inl ⟨by rfl, ?_⟩) (by assumption) ?_
            rotate_left 1
            · intro w2 hSw
              go_simp
              try with_reducible rfl
            try simp only [Act.put, List.setIfInBounds_toArray, List.set_cons_zero, List.set_cons_succ]
            refine take_as 1 (some 97) (v := ?_) rfl rfl (by kernel_rfl) (by kernel_rfl) (by kernel_rfl) (fun _ _ _ h => h) (Or.inl ⟨by rfl, ?_⟩) (by assumption) ?_
            rotate_left 1
            · intro w2 hSw
              go_simp
              try with_reducible rfl
            try simp only [Act.put, List.setIfInBounds_toArray, List.set_cons_zero, List.set_cons_succ]
            refine take_as 2 (some 98) (v := ?_) rfl rfl (by kernel_rfl) (by kernel_rfl) (by kernel_rfl) (fun _ _ _ h => h) (Or.inl ⟨by rfl, ?_⟩) (by assumption) ?_
            rotate_left 1
            · intro w2 hSw
              go_simp
              try with_reducible rfl
            try simp only [Act.put, List.setIfInBounds_toArray, List.set_cons_zero, List.set_cons_succ]
            refine take_as 3 (some 99) (v := ?_) rfl rfl (by kernel_rfl) (by kernel_rfl) (by kernel_rfl) (fun _ _ _ h => h) (Or.inl ⟨by rfl, ?_⟩) (by assumption) ?_
            rotate_left 1
            · intro w2 hSw
              go_simp
              try with_reducible rfl
            try simp only [Act.put, List.setIfInBounds_toArray, List.set_cons_zero, List.set_cons_succ]
            refine take_as 4 (some 100) (v := ?_) rfl rfl (by kernel_rfl) (by kernel_rfl) (by kernel_rfl) (fun _ _ _ h => h) (Or.inl ⟨by rfl, ?_⟩) (by assumption) ?_
            rotate_left 1
            · intro w2 hSw
              have hl := hSw.1
              go_simp
              try with_reducible rfl
            try simp only [Act.put, List.setIfInBounds_toArray, List.set_cons_zero, List.set_cons_succ]
            refine take_as 5 (some 101) rfl rfl (by kernel_rfl) (by kernel_rfl) (by kernel_rfl) (fun _ _ _ h => h) (yieldsIf_load_mid (by rfl) 29 (.tmp 13) rfl V6.heap.size 0 rfl [.int .i64 a, .int .i64 c, .int .i64 site] _ (fun w2 h2 => h2.2.whole) Tryz.underlying29 rfl (by kernel_rfl)) (by assumption) ?_
            try simp only [Act.put, List.setIfInBounds_toArray, List.set_cons_zero, List.set_cons_succ]
            refine wpAnyH_ready (rs := [6]) (by kernel_rfl) (by simp) ?_
            refine AllReadyH.cons rfl (fun K hK => ?_) ?_
            · refine step_update_new rfl rfl (.tmp 100) (.tmp 101) (.const (.bool true)) rfl mp (.agg #[.int .i64 a, .int .i64 c, .int .i64 site]) (.bool true) [] rfl rfl rfl Tryz.underlying153 HA7p.out.prs.drew (check_pair _ _ _) (noKey_nil Tryz.underlying29 _) ?_
              have HA9 := hide (show An (putMap V7.drew mp [(Value.agg #[.int .i64 a, .int .i64 c, .int .i64 site], Value.bool true)]) x mf mp mr mx lk' rs es b lv id ds (.string nm) (.slice Ab nb cb) (.slice As ns cs) [(Value.agg #[.int .i64 a, .int .i64 c, .int .i64 site], Value.bool true)] (lx ++ [(.int .i64 site, .agg (fcL (.slice Ag 0 cg) (.slice Aa 0 ca) v v pa).toArray)]) from HA7p.out.drew.pairsPut [(Value.agg #[.int .i64 a, .int .i64 c, .int .i64 site], Value.bool true)])
              have hp9 := putMap_but [(Value.agg #[.int .i64 a, .int .i64 c, .int .i64 site], Value.bool true)] HA7p.out.prs.drew
              have hlp := H.out.lt
              have HG9 := hide (HG7p.out.drew.but hp9 (by omega))
              have HD9 := hide (HD7p.out.drew.but hp9 (by omega))
              have HB9 := hide (HB7p.out.drew.but hp9 (by omega))
              have HT9 : Hid (But (fun k => k = x ∨ k = mp ∨ k = mx) W (putMap V7.drew mp [(Value.agg #[.int .i64 a, .int .i64 c, .int .i64 site], Value.bool true)])) := hide (HT7p.out.drew.trans (hp9.mono (fun k hk => .inr (.inl hk))))
              clear hp9 hlp
              refine hK.out _ _ ?_ (fun hHeld => ?_)
              · exact ⟨HA9.out.box.1 1 _ rfl, HB9.out⟩
              clear hK K
              try simp only [Act.put, List.setIfInBounds_toArray, List.set_cons_zero, List.set_cons_succ]
              refine wpAnyH_done (by kernel_rfl) ?_ _
              obtain ⟨V9, hV9⟩ : ∃ V, V = putMap V7.drew mp [(Value.agg #[.int .i64 a, .int .i64 c, .int .i64 site], Value.bool true)] := ⟨_, rfl⟩
              simp only [List.nil_append]
              rw [← hV9] at HA9 HG9 HD9 HB9 HT9 ⊢
              clear hV9 hHeld c18 c19 c20 c1 q0 q1 q2 HA6 HG6 HD7 HT6 HA7p HG7p HD7p HB7p HT7p
              have c20 : V9.cell? ⟨g9, 20, none⟩ = some (.slice none 0 0) := HG9.out.1 20 _ rfl
              go_wp2_with fail
              rw [rounds_succ]
              go_wp2_with (first
                  | (go_at_call 130; refine (used_nil _ _).mono ?_; rintro e w7 ⟨rfl, hb7⟩; have HG7 := hide (HG9.out.below hb7); have HD8 := hide (HD9.out.below hb7); have HA7 := hide (HA9.out.below hb7); have HT7 := hide (HT9.out.afterBelow hb7); have c16 : w7.cell? ⟨g9, 16, none⟩ = some (.int .i64 0) := HG7.out.1 16 _ rfl; clear hb7)
                  | ((with_reducible refine wpList_load_mid ?_ 164 (.tmp 107) ?_ g9 0 ?_ (fcL (.slice A2 0 c2) (.slice Aa 0 ca) r r pa) _ ?_ Tryz.underlying164 ?_ ?_ ?_); (focus rfl); (focus rfl); (focus rfl); (focus exact HG7.out.sub 0 _ rfl); (focus rfl); (focus kernel_rfl); simp only [fcL])
                  | ((with_reducible refine wpList_load_mid ?_ 164 (.tmp 109) ?_ g9 8 ?_ deL _ ?_ Tryz.underlying164 ?_ ?_ ?_); (focus rfl); (focus rfl); (focus rfl); (focus exact HG7.out.sub 8 _ rfl); (focus rfl); (focus kernel_rfl); simp only [deL])
                  | ((with_reducible refine wpList_store_in ?_ ?_ 166 (.tmp 6) (.tmp 113) ?_ (w.heap.size + 1 + 1) 0 saZ (saL (.slice A2 0 c2) (.slice Aa 0 ca) r pa) (saL (.slice A2 0 c2) (.slice Aa 0 ca) r pa) ?_ ?_ ?_ ?_ ?_ ?_ ?_ ?_); (focus rfl); (focus rfl); (focus rfl); (focus rfl); (focus rfl); (focus exact HD8.out); (focus (show 0 + 17 ≤ 17; decide)); (focus rfl); (focus kernel_rfl); (focus exact saL_one); intro V8 hV8 hT8; have HV8 := hide hV8; have HT8 := hide hT8; clear hV8 hT8))
              have hlt := H.out.lt
              have fA := HA7.out.apart HT8.out w.heap.size (fun k hk => by omega) hlt
              have fT : But (fun k => k = x ∨ k = mp ∨ k = mx) w V8 := ((Below.but HbW.out _).trans HT7.out).thenNew HT8.out (fun k hk => .inr (by omega))
              refine bodyPost_ret (res_box (cs := (saL (.slice A2 0 c2) (.slice Aa 0 ca) r pa)) rfl rfl HV8.out Tryz.underlying166 rfl (by kernel_rfl)) rfl ⟨A2, c2, rfl, hA2, ?_, fT⟩
              · exact fA
            exact AllReadyH.nil
          
      exact AllReadyH.nil
    exact AllReadyH.nil
  exact AllReadyH.nil
end Go.Proofs.YthhfakkfdohcpaaGreat
