/- The proof that an analysis gives. No condition. -/
import Derived.Test.YthhfakkfdohcpaaGreatM17
import Derived.Deep.CutBlock
import Derived.Test.YthhfakkfdohcpaaGreatM15
namespace Go.Proofs.YthhfakkfdohcpaaGreat
open Go.RowKit Go.ChangeMaps Go.MapKept
/-- The cells of a summary of the examples. -/
def smL (id lk lo : Int) (ps : Value) (co : Int) : List Value := [.int .i64 id, .int .i64 0, .int .i64 0, .int .i64 1, .int .i64 0, .int .i64 0, .int .i64 0, .int .i64 lk, .int .i64 lo, ps, .int .i64 co]
theorem smL_one {id lk lo co : Int} {A : Option Addr} {n c : Nat} : ∀ u ∈ smL id lk lo (.slice A n c) co, u.oneCell' = true := by
  intro u hu
  simp only [smL, List.mem_cons, List.not_mem_nil, or_false] at hu
  rcases hu with rfl | rfl | rfl | rfl | rfl | rfl | rfl | rfl | rfl | rfl | rfl <;> rfl
/-- The cells of a proof. -/
def pfL (id : Int) (f : Value) (s : List Value) (F P R : Value) : List Value := [.int .i64 id, f] ++ s ++ [F, P, R]
def pfZ : List Value := pfL 0 (.slice none 0 0) (smZ) (.slice none 0 0) (.slice none 0 0) (.slice none 0 0)
theorem anBut {W W' : World} {x mf mp mr mx g : Nat} {lk : Int} {rs es : Value} {b : Nat → Nat} {lv id ds : Int} {nm B su : Value} {lp lx : List (Value × Value)} (h : An W x mf mp mr mx lk rs es b lv id ds nm B su lp lx) (hb : But (fun k => k = g) W W') (h1 : x ≠ g) (h2 : mf ≠ g ∧ mp ≠ g ∧ mr ≠ g ∧ mx ≠ g) : An W' x mf mp mr mx lk rs es b lv id ds nm B su lp lx :=
  { h with box := h.box.but hb h1, fnd := h.fnd.but hb h2.1, prs := h.prs.but hb h2.2.1, rls := h.rls.but hb h2.2.2.1, fct := h.fct.but hb h2.2.2.2 }
theorem pfL_one {id lk lo co : Int} {A1 A2 A3 A4 A5 : Option Addr} {n1 n2 n3 n4 n5 c1 c2 c3 c4 c5 : Nat} : ∀ u ∈ pfL id (.slice A1 n1 c1) (smL id lk lo (.slice A2 n2 c2) co) (.slice A3 n3 c3) (.slice A4 n4 c4) (.slice A5 n5 c5), u.oneCell' = true := by
  intro u hu
  simp only [pfL, smL, List.cons_append, List.nil_append, List.mem_cons, List.not_mem_nil, or_false] at hu
  rcases hu with rfl | rfl | rfl | rfl | rfl | rfl | rfl | rfl | rfl | rfl | rfl | rfl | rfl | rfl | rfl | rfl <;> rfl
theorem pfZ_one {id : Int} {P : Option Addr} {n c : Nat} : ∀ u ∈ pfL id (.slice none 0 0) smZ (.slice none 0 0) (.slice P n c) (.slice none 0 0), u.oneCell' = true := by
  intro u hu
  simp only [pfL, smZ, List.cons_append, List.nil_append, List.mem_cons, List.not_mem_nil, or_false] at hu
  rcases hu with rfl | rfl | rfl | rfl | rfl | rfl | rfl | rfl | rfl | rfl | rfl | rfl | rfl | rfl | rfl | rfl <;> rfl
def PrTo (w : World) (x : Nat) (id lk : Int) (co : Int) (pa1 pb1 ps1 : Int) (e : Ending) (w' : World) : Prop :=
  ∃ Af nf cf lo gs cq gp cp, e = .returned (.agg (pfL id (.slice Af nf cf) (smL id lk lo (.slice (some ⟨gs, 0, none⟩) 1 cq) co) (.slice none 0 0) (.slice (some ⟨gp, 0, none⟩) 1 cp) (.slice none 0 0)).toArray) ∧ BoxAt w' gp [.int .i64 pa1, .int .i64 pb1, .int .i64 ps1] ∧ w.heap.size ≤ gp ∧ But (fun k => k = x) w w'
/-- How the facts of a proof are gathered. -/
def PfRel (n : Nat) (id : Int) (sm : List Value) (P : Value) (g11 : Nat) (w : World) (i : Value) (wr : World) : Prop :=
  ∃ (j : Nat) (A : Option Addr) (cf : Nat) (xs : List Value), j ≤ n ∧ i = .int .i64 j ∧ BoxAt wr g11 (pfL id (.slice A j cf) sm (.slice none 0 0) P (.slice none 0 0)) ∧ wr.ownsRow w.heap.size 164 8 (.slice A j cf) j xs ∧ But (fun k => k = g11) w wr
theorem pair_one {a b c : Int} : ∀ u ∈ [Value.int .i64 a, .int .i64 b, .int .i64 c], u.oneCell' = true := by
  intro u hu
  simp only [List.mem_cons, List.not_mem_nil, or_false] at hu
  rcases hu with rfl | rfl | rfl <;> rfl
set_option maxRecDepth 100000 in
set_option maxHeartbeats 16000000 in
theorem proof_any (ss : List St) (hss : ∀ s ∈ ss, s.2.1 = 16 ∨ s.2.1 = 17) (hlen : ss.length ≤ 100) (hnd : ∀ j s, ss[j]? = some s → s.1 ∉ (ss.take j).map (·.1)) (sb : Nat) (b : Nat → Nat) (As : Option Addr) (ns cs : Nat) (lv id ds : Int) (nm : ByteArray) (A1 A2 : Option Addr) (c1 c2 : Nat) (pa lk : Int) 
    (x mf mp mr mx : Nat) (pa1 pb1 ps1 : Int) (lx : List (Value × Value)) (w : World) (h : An w x mf mp mr mx lk (.slice none 0 0) (.slice none 0 0) b lv id ds (.string nm) (.slice (some ⟨sb, 0, none⟩) ss.length ss.length) (.slice As ns cs) [(.agg #[.int .i64 pa1, .int .i64 pb1, .int .i64 ps1], .bool true)] lx) (hB : BodyAt w sb ss) (hsb : sb ≠ x) (hlx : FactsOk A2 c2 pa lx (ss.map (·.1))) :
    Calls Tryz.prog 70 #[.pointer (some ⟨x, 0, none⟩), .agg (saL (.slice A1 0 c1) (.slice A2 0 c2) 0 pa).toArray] w (PrTo w x id lk ss.length pa1 pb1 ps1) := by
  have H := hide h; clear h
  have HB := hide hB; clear hB
  have Hss := hide hss; clear hss
  have Hnd := hide hnd; clear hnd
  have Hlx := hide hlx; clear hlx
  have Hlen := hide hlen; clear hlen
  have Hsb := hide hsb; clear hsb
  go_enter Tryz.func70, Tryz.ntmps70
  simp only [saL, fcL, deL, List.cons_append, List.nil_append]
  go_upto_region 1 with (fail)
  obtain ⟨W, hW⟩ : ∃ V, V = (w.alloc (.cells (saL (.slice A1 0 c1) (.slice A2 0 c2) 0 pa).toArray 166)).alloc (.cells pfZ.toArray 61) := ⟨_, rfl⟩
  have hb2 := boxes2 w _ _ _ _ W hW
  have hW' := hW
  simp only [saL, fcL, deL, pfZ, pfL, smZ, List.cons_append, List.nil_append] at hW'
  rw [← hW']
  clear hW hW'
  obtain ⟨b3, b4, hz, hbW⟩ := hb2
  have H1 := hide (H.out.below hbW)
  have B3 := hide b3
  have B4 := hide b4
  have HbW := hide hbW
  have Hz := hide hz
  have Hlt := hide H.out.lt
  have HB1 := hide (HB.out.below hbW)
  clear b3 b4 hbW hz
  go_upto_region 2 with (first
    | ((with_reducible refine wpList_load_mid ?_ 164 (.tmp 18) ?_ (w.heap.size) (0) ?_ (fcL (.slice A1 0 c1) (.slice A2 0 c2) 0 0 pa) _ ?_ Tryz.underlying164 ?_ ?_ ?_); (focus rfl); (focus rfl); (focus rfl); (focus exact B3.out.sub 0 _ rfl); (focus rfl); (focus kernel_rfl))
    | (go_at_call 97; refine (result_num x mf mp mr mx lk b lv id ds nm _ _ _ lx A1 A2 0 0 c1 c2 0 0 pa _ H1.out).mono ?_; rintro e X ⟨g1, d1, g2, d2, rfl, hA, hg1, hg2, hl1, hl2, hbX⟩; have HA := hide hA; have HG1 := hide hg1; have HG2 := hide hg2; have HL1 := hide hl1; have HL2 := hide hl2; have HBX := hide hbX; clear hA hg1 hg2 hl1 hl2 hbX))
  have H3 := hide (B3.out.but HBX.out (by have := Hlt.out.1; omega))
  have H4 := hide (B4.out.but HBX.out (by have := Hlt.out.1; omega))
  have HS := hide (BoxAt.but HB1.out HBX.out Hsb.out)
  have Hlt1 := hide HA.out.lt
  have HW : Hid (But (fun k => k = x) w X) := hide ((Below.but HbW.out _).thenNew HBX.out (fun i e => .inl e))
  have Hx : Hid (w.heap.size + 2 ≤ X.heap.size) := hide (by have := Hz.out; have := HBX.out.size; omega)
  have HL1 : Hid (w.heap.size + 2 ≤ g1) := hide (by have := Hz.out; have := HL1.out; omega)
  have HL2 : Hid (w.heap.size + 2 ≤ g2) := hide (by have := Hz.out; have := HL2.out; omega)
  have HSX : Hid (sb < X.heap.size) := hide HS.out.2.2
  have HGX : Hid (g1 < X.heap.size ∧ g2 < X.heap.size) := hide ⟨HG1.out.2.2, HG2.out.2.2⟩
  clear H1 B3 B4 HB1 HBX H HB HbW Hz
  go_cut [5] (fun t wx => ∃ g5, t = .pointer (some ⟨g5, 0, none⟩) ∧ BoxAt wx g5 (smL id lk 0 (.slice none 0 0) ss.length) ∧ X.heap.size ≤ g5 ∧ Below X.heap.size X wx)
  case first =>
    refine wp_region_held_drew (S := fun w' => BoxAt w' x (anL mf mp mr lk (.slice (some ⟨g1, 0, none⟩) 1 d1) (.slice (some ⟨g2, 0, none⟩) 1 d2) mx b lv id ds (.string nm) (.slice (some ⟨sb, 0, none⟩) ss.length ss.length) (.slice As ns cs)) ∧ BoxAt w' w.heap.size (saL (.slice A1 0 c1) (.slice A2 0 c2) 0 pa)) (by kernel_rfl) ?_ (fun hHeld => ?_)
    · exact ⟨HA.out.box.below (Below.refl _ _).drew, H3.out.below (Below.refl _ _).drew⟩
    generalize hw0 : World.drew X = w0 at hHeld ⊢
    have HB0 : Hid (Below X.heap.size X w0) := hide (by rw [← hw0]; exact (Below.refl _ X).drew)
    replace HA := hide (HA.out.below HB0.out)
    replace H3 := hide (H3.out.below HB0.out)
    replace H4 := hide (H4.out.below HB0.out)
    replace HG1 := hide (HG1.out.below HB0.out)
    replace HG2 := hide (HG2.out.below HB0.out)
    replace HS := hide (HS.out.below HB0.out)
    clear hw0
    refine take_as 0 (some 22) (v := ?_) rfl rfl (by kernel_rfl) (by kernel_rfl) (by kernel_rfl) (fun _ _ _ h => h) (Or.inl ⟨by rfl, ?_⟩) (by assumption) ?_
    rotate_left 1
    · intro w2 hSw
      go_simp
      try with_reducible rfl
    try simp only [Act.put, List.setIfInBounds_toArray, List.set_cons_zero, List.set_cons_succ]
    refine take_as 1 (some 23) (v := ?_) rfl rfl (by kernel_rfl) (by kernel_rfl) (by kernel_rfl) (fun _ _ _ h => h) (Or.inl ⟨by rfl, ?_⟩) (by assumption) ?_
    rotate_left 1
    · intro w2 hSw
      go_simp
      try with_reducible rfl
    try simp only [Act.put, List.setIfInBounds_toArray, List.set_cons_zero, List.set_cons_succ]
    refine take_as 2 (some 24) (v := ?_) rfl rfl (by kernel_rfl) (by kernel_rfl) (by kernel_rfl) (fun _ _ _ h => h) (Or.inl ⟨by rfl, ?_⟩) (by assumption) ?_
    rotate_left 1
    · intro w2 hSw
      go_simp
      try with_reducible rfl
    try simp only [Act.put, List.setIfInBounds_toArray, List.set_cons_zero, List.set_cons_succ]
    refine take_as 3 (some 25) (v := ?_) rfl rfl (by kernel_rfl) (by kernel_rfl) (by kernel_rfl) (fun _ _ _ h => h) (Or.inl ⟨by rfl, ?_⟩) (by assumption) ?_
    rotate_left 1
    · intro w2 hSw
      go_simp
      try with_reducible rfl
    try simp only [Act.put, List.setIfInBounds_toArray, List.set_cons_zero, List.set_cons_succ]
    refine take_as 4 (some 26) (v := ?_) rfl rfl (by kernel_rfl) (by kernel_rfl) (by kernel_rfl) (fun _ _ _ h => h) (Or.inl ⟨by rfl, ?_⟩) (by assumption) ?_
    rotate_left 1
    · intro w2 hSw
      have hl := hSw.1.1 19 _ rfl
      go_simp
      try with_reducible rfl
    try simp only [Act.put, List.setIfInBounds_toArray, List.set_cons_zero, List.set_cons_succ]
    refine take_as 5 (some 27) (v := ?_) rfl rfl (by kernel_rfl) (by kernel_rfl) (by kernel_rfl) (fun _ _ _ h => h) (Or.inl ⟨by rfl, ?_⟩) (by assumption) ?_
    rotate_left 1
    · intro w2 hSw
      go_simp
      try with_reducible rfl
    try simp only [Act.put, List.setIfInBounds_toArray, List.set_cons_zero, List.set_cons_succ]
    refine take_as 6 (some 28) (v := ?_) rfl rfl (by kernel_rfl) (by kernel_rfl) (by kernel_rfl) (fun _ _ _ h => h) (Or.inl ⟨by rfl, ?_⟩) (by assumption) ?_
    rotate_left 1
    · intro w2 hSw
      go_simp
      try with_reducible rfl
    try simp only [Act.put, List.setIfInBounds_toArray, List.set_cons_zero, List.set_cons_succ]
    refine take_as 7 (some 29) (v := ?_) rfl rfl (by kernel_rfl) (by kernel_rfl) (by kernel_rfl) (fun _ _ _ h => h) (Or.inl ⟨by rfl, ?_⟩) (by assumption) ?_
    rotate_left 1
    · intro w2 hSw
      have hl := hSw.2.1 16 _ rfl
      go_simp
      try with_reducible rfl
    try simp only [Act.put, List.setIfInBounds_toArray, List.set_cons_zero, List.set_cons_succ]
    refine take_as 8 (some 30) (v := ?_) rfl rfl (by kernel_rfl) (by kernel_rfl) (by kernel_rfl) (fun _ _ _ h => h) (Or.inl ⟨by rfl, ?_⟩) (by assumption) ?_
    rotate_left 1
    · intro w2 hSw
      go_simp
      try with_reducible rfl
    try simp only [Act.put, List.setIfInBounds_toArray, List.set_cons_zero, List.set_cons_succ]
    refine take_as 9 (some 31) (v := ?_) rfl rfl (by kernel_rfl) (by kernel_rfl) (by kernel_rfl) (fun _ _ _ h => h) (Or.inl ⟨by rfl, ?_⟩) (by assumption) ?_
    rotate_left 1
    · intro w2 hSw
      go_simp
      try with_reducible rfl
    try simp only [Act.put, List.setIfInBounds_toArray, List.set_cons_zero, List.set_cons_succ]
    refine take_as 10 (some 32) (v := ?_) rfl rfl (by kernel_rfl) (by kernel_rfl) (by kernel_rfl) (fun _ _ _ h => h) (Or.inl ⟨by rfl, ?_⟩) (by assumption) ?_
    rotate_left 1
    · intro w2 hSw
      go_simp
      try with_reducible rfl
    try simp only [Act.put, List.setIfInBounds_toArray, List.set_cons_zero, List.set_cons_succ]
    refine take_as 11 (some 33) (v := ?_) rfl rfl (by kernel_rfl) (by kernel_rfl) (by kernel_rfl) (fun _ _ _ h => h) (Or.inl ⟨by rfl, ?_⟩) (by assumption) ?_
    rotate_left 1
    · intro w2 hSw
      go_simp
      try with_reducible rfl
    try simp only [Act.put, List.setIfInBounds_toArray, List.set_cons_zero, List.set_cons_succ]
    refine take_as 12 (some 34) (v := ?_) rfl rfl (by kernel_rfl) (by kernel_rfl) (by kernel_rfl) (fun _ _ _ h => h) (Or.inl ⟨by rfl, ?_⟩) (by assumption) ?_
    rotate_left 1
    · intro w2 hSw
      have hl := hSw.1.1 3 _ rfl
      go_simp
      try with_reducible rfl
    try simp only [Act.put, List.setIfInBounds_toArray, List.set_cons_zero, List.set_cons_succ]
    refine take_as 13 (some 35) (v := ?_) rfl rfl (by kernel_rfl) (by kernel_rfl) (by kernel_rfl) (fun _ _ _ h => h) (Or.inl ⟨by rfl, ?_⟩) (by assumption) ?_
    rotate_left 1
    · intro w2 hSw
      go_simp
      try with_reducible rfl
    try simp only [Act.put, List.setIfInBounds_toArray, List.set_cons_zero, List.set_cons_succ]
    refine take_as 14 (some 36) (v := ?_) rfl rfl (by kernel_rfl) (by kernel_rfl) (by kernel_rfl) (fun _ _ _ h => h) (Or.inl ⟨by rfl, ?_⟩) (by assumption) ?_
    rotate_left 1
    · intro w2 hSw
      go_simp
      try with_reducible rfl
    try simp only [Act.put, List.setIfInBounds_toArray, List.set_cons_zero, List.set_cons_succ]
    refine take_as 15 (some 37) (v := ?_) rfl rfl (by kernel_rfl) (by kernel_rfl) (by kernel_rfl) (fun _ _ _ h => h) (Or.inl ⟨by rfl, ?_⟩) (by assumption) ?_
    rotate_left 1
    · intro w2 hSw
      go_simp
      try with_reducible rfl
    try simp only [Act.put, List.setIfInBounds_toArray, List.set_cons_zero, List.set_cons_succ]
    refine take_as 16 (some 38) rfl rfl (by kernel_rfl) (by kernel_rfl) (by kernel_rfl) (fun _ _ _ h => h) (yieldsIf_load_mid (by rfl) 48 (.tmp 37) rfl x 7 rfl (pgL b) _ (fun w2 hSw => hSw.1.sub 7 _ rfl) Tryz.underlying48 rfl (by kernel_rfl)) (by assumption) ?_
    try simp only [Act.put, List.setIfInBounds_toArray, List.set_cons_zero, List.set_cons_succ]
    refine take_as 17 (some 39) (v := ?_) rfl rfl (by kernel_rfl) (by kernel_rfl) (by kernel_rfl) (fun _ _ _ h => h) (Or.inl ⟨by rfl, ?_⟩) (by assumption) ?_
    rotate_left 1
    · intro w2 hSw
      go_simp
      try with_reducible rfl
    try simp only [Act.put, List.setIfInBounds_toArray, List.set_cons_zero, List.set_cons_succ]
    refine take_as 18 (some 40) (v := ?_) rfl rfl (by kernel_rfl) (by kernel_rfl) (by kernel_rfl) (fun _ _ _ h => h) (Or.inl ⟨by rfl, ?_⟩) (by assumption) ?_
    rotate_left 1
    · intro w2 hSw
      go_simp
      try with_reducible rfl
    try simp only [Act.put, List.setIfInBounds_toArray, List.set_cons_zero, List.set_cons_succ]
    refine take_as 19 (some 41) (v := ?_) rfl rfl (by kernel_rfl) (by kernel_rfl) (by kernel_rfl) (fun _ _ _ h => h) (Or.inl ⟨by rfl, ?_⟩) (by assumption) ?_
    rotate_left 1
    · intro w2 hSw
      go_simp
      try with_reducible rfl
    try simp only [Act.put, List.setIfInBounds_toArray, List.set_cons_zero, List.set_cons_succ]
    refine take_as 20 (some 42) rfl rfl (by kernel_rfl) (by kernel_rfl) (by kernel_rfl) (fun _ _ _ h => h) (yieldsIf_load_mid (by rfl) 83 (.tmp 41) rfl x 19 rfl (dfL id ds (.string nm) (.slice (some ⟨sb, 0, none⟩) ss.length ss.length)) _ (fun w2 hSw => hSw.1.sub 19 _ rfl) Tryz.underlying83 rfl (by kernel_rfl)) (by assumption) ?_
    try simp only [Act.put, List.setIfInBounds_toArray, List.set_cons_zero, List.set_cons_succ]
    refine take_as 21 (some 43) (v := ?_) rfl rfl (by kernel_rfl) (by kernel_rfl) (by kernel_rfl) (fun _ _ _ h => h) (Or.inl ⟨by rfl, ?_⟩) (by assumption) ?_
    rotate_left 1
    · intro w2 hSw
      go_simp
      try with_reducible rfl
    try simp only [Act.put, List.setIfInBounds_toArray, List.set_cons_zero, List.set_cons_succ]
    refine take_as 22 (some 44) (v := ?_) rfl rfl (by kernel_rfl) (by kernel_rfl) (by kernel_rfl) (fun _ _ _ h => h) (Or.inl ⟨by rfl, ?_⟩) (by assumption) ?_
    rotate_left 1
    · intro w2 hSw
      go_simp
      try with_reducible rfl
    try simp only [Act.put, List.setIfInBounds_toArray, List.set_cons_zero, List.set_cons_succ]
    refine take_as 23 (some 45) (v := ?_) rfl rfl (by kernel_rfl) (by kernel_rfl) (by kernel_rfl) (fun _ _ _ h => h) (Or.inl ⟨by rfl, ?_⟩) (by assumption) ?_
    rotate_left 1
    · intro w2 hSw
      go_simp
      try with_reducible rfl
    try simp only [Act.put, List.setIfInBounds_toArray, List.set_cons_zero, List.set_cons_succ]
    refine take_as 24 (some 46) (v := ?_) rfl rfl (by kernel_rfl) (by kernel_rfl) (by kernel_rfl) (fun _ _ _ h => h) (Or.inl ⟨by rfl, ?_⟩) (by assumption) ?_
    rotate_left 1
    · intro w2 hSw
      have hl := hSw.1.1 31 _ rfl
      go_simp
      try with_reducible rfl
    try simp only [Act.put, List.setIfInBounds_toArray, List.set_cons_zero, List.set_cons_succ]
    refine wpAnyH_ready (rs := [25, 27]) (by kernel_rfl) (by simp) ?_
    refine AllReadyH.cons rfl (fun K hK => ?_) ?_
    · go_simp
      refine (cost_locks ss Hss.out Hlen.out sb b As ns cs id ds nm _ HS.out).mono ?_
      rintro e w1 ⟨rfl, hbx⟩
      have hbn : Below w0.heap.size w0 w1 := hbx
      have HB1 : Hid (Below X.heap.size X w1) := hide (HB0.out.trans (hbn.mono HB0.out.size))
      replace HA := hide (HA.out.below hbn)
      replace H3 := hide (H3.out.below hbn)
      replace H4 := hide (H4.out.below hbn)
      replace HG1 := hide (HG1.out.below hbn)
      replace HG2 := hide (HG2.out.below hbn)
      replace HS := hide (HS.out.below hbn)
      clear hbn hbx
      go_wp2_with fail
      refine hK.out _ _ ?_ (fun hHeld => ?_)
      · exact ⟨HA.out.box, H3.out⟩
      clear hK K
      try simp only [Act.put, List.setIfInBounds_toArray, List.set_cons_zero, List.set_cons_succ]
      refine take_as 26 (some 48) (v := ?_) rfl rfl (by kernel_rfl) (by kernel_rfl) (by kernel_rfl) (fun _ _ _ h => h) (Or.inl ⟨by rfl, ?_⟩) (by assumption) ?_
      rotate_left 1
      · intro w2 hSw
        go_simp
        try with_reducible rfl
      try simp only [Act.put, List.setIfInBounds_toArray, List.set_cons_zero, List.set_cons_succ]
      refine wpAnyH_ready (rs := [27]) (by kernel_rfl) (by simp) ?_
      refine AllReadyH.cons rfl (fun K hK => ?_) ?_
      · go_simp
        refine name_world (fun w2 hwn => ?_)
        have hbn : Below w1.heap.size w1 w2 := by rw [hwn]; exact (Below.refl _ _).alloc (Nat.le_refl _) _
        have hHZ : BoxAt w2 w1.heap.size smZ := by rw [hwn]; exact BoxAt.new _ _ _
        clear hwn
        have HB2 : Hid (Below X.heap.size X w2) := hide (HB1.out.trans (hbn.mono HB1.out.size))
        obtain ⟨g5, hqg5⟩ : ∃ q, q = w1.heap.size := ⟨_, rfl⟩
        replace HA := hide (HA.out.below hbn)
        replace H3 := hide (H3.out.below hbn)
        replace H4 := hide (H4.out.below hbn)
        replace HG1 := hide (HG1.out.below hbn)
        replace HG2 := hide (HG2.out.below hbn)
        replace HS := hide (HS.out.below hbn)
        have Hg5W : X.heap.size ≤ g5 := by rw [hqg5]; exact HB1.out.size
        rw [← hqg5] at hHZ ⊢
        have HZ := hide hHZ
        clear hqg5 hHZ hbn
        refine hK.out _ _ ?_ (fun hHeld => ?_)
        · exact ⟨HA.out.box, H3.out⟩
        clear hK K
        try simp only [Act.put, List.setIfInBounds_toArray, List.set_cons_zero, List.set_cons_succ]
        refine wpAnyH_ready (rs := [28]) (by kernel_rfl) (by simp) ?_
        refine AllReadyH.cons rfl (fun K hK => ?_) ?_
        · refine step_store_as rfl rfl 59 (.tmp 5) (.tmp 48) rfl g5 0 (smL id lk 0 (.slice none 0 0) ss.length).toArray rfl rfl (HZ.out.there 0 _ (by show 0 + 11 ≤ 11; decide)) (by kernel_rfl) (all_oneCell_toArray smL_one) ?_
          refine after_put 0 (smL id lk 0 (.slice none 0 0) ss.length) _ HZ.out (by show 0 + 11 ≤ 11; decide) rfl (fun w3 hV5 hT5 => ?_)
          have HB3 : Hid (Below X.heap.size X w3) := hide (HB2.out.trans (hT5.below HB2.out.size (fun k hk => by omega)))
          have HV5 := hide hV5
          replace HA := hide (HA.out.apart hT5 X.heap.size (fun k hk => by omega) Hlt1.out)
          replace H3 := hide (H3.out.but hT5 (by have := Hx.out; omega))
          clear hV5 hT5
          refine hK.out _ _ ?_ (fun hHeld => ?_)
          · exact ⟨HA.out.box, H3.out⟩
          clear hK K
          try simp only [Act.put, List.setIfInBounds_toArray, List.set_cons_zero, List.set_cons_succ]
          refine wpAnyH_done (by kernel_rfl) ?_ _
          go_wp2_with fail
          go_meet
          exact ⟨g5, rfl, HV5.out, Hg5W, HB3.out⟩
        exact AllReadyH.nil
      exact AllReadyH.nil
    refine AllReadyH.cons rfl (fun K hK => ?_) ?_
    · go_simp
      refine name_world (fun w1 hwn => ?_)
      have hbn : Below w0.heap.size w0 w1 := by rw [hwn]; exact (Below.refl _ _).alloc (Nat.le_refl _) _
      have hHZ : BoxAt w1 w0.heap.size smZ := by rw [hwn]; exact BoxAt.new _ _ _
      clear hwn
      have HB1 : Hid (Below X.heap.size X w1) := hide (HB0.out.trans (hbn.mono HB0.out.size))
      obtain ⟨g5, hqg5⟩ : ∃ q, q = w0.heap.size := ⟨_, rfl⟩
      replace HA := hide (HA.out.below hbn)
      replace H3 := hide (H3.out.below hbn)
      replace H4 := hide (H4.out.below hbn)
      replace HG1 := hide (HG1.out.below hbn)
      replace HG2 := hide (HG2.out.below hbn)
      replace HS := hide (HS.out.below hbn)
      have Hg5W : X.heap.size ≤ g5 := by rw [hqg5]; exact HB0.out.size
      rw [← hqg5] at hHZ ⊢
      have HZ := hide hHZ
      clear hqg5 hHZ hbn
      refine hK.out _ _ ?_ (fun hHeld => ?_)
      · exact ⟨HA.out.box, H3.out⟩
      clear hK K
      try simp only [Act.put, List.setIfInBounds_toArray, List.set_cons_zero, List.set_cons_succ]
      refine wpAnyH_ready (rs := [25]) (by kernel_rfl) (by simp) ?_
      refine AllReadyH.cons rfl (fun K hK => ?_) ?_
      · go_simp
        refine (cost_locks ss Hss.out Hlen.out sb b As ns cs id ds nm _ HS.out).mono ?_
        rintro e w2 ⟨rfl, hbx⟩
        have hbn : Below w1.heap.size w1 w2 := hbx
        have HB2 : Hid (Below X.heap.size X w2) := hide (HB1.out.trans (hbn.mono HB1.out.size))
        replace HA := hide (HA.out.below hbn)
        replace H3 := hide (H3.out.below hbn)
        replace H4 := hide (H4.out.below hbn)
        replace HG1 := hide (HG1.out.below hbn)
        replace HG2 := hide (HG2.out.below hbn)
        replace HS := hide (HS.out.below hbn)
        replace HZ := hide (HZ.out.below hbn)
        clear hbn hbx
        go_wp2_with fail
        refine hK.out _ _ ?_ (fun hHeld => ?_)
        · exact ⟨HA.out.box, H3.out⟩
        clear hK K
        try simp only [Act.put, List.setIfInBounds_toArray, List.set_cons_zero, List.set_cons_succ]
        refine take_as 26 (some 48) (v := ?_) rfl rfl (by kernel_rfl) (by kernel_rfl) (by kernel_rfl) (fun _ _ _ h => h) (Or.inl ⟨by rfl, ?_⟩) (by assumption) ?_
        rotate_left 1
        · intro w2 hSw
          go_simp
          try with_reducible rfl
        try simp only [Act.put, List.setIfInBounds_toArray, List.set_cons_zero, List.set_cons_succ]
        refine wpAnyH_ready (rs := [28]) (by kernel_rfl) (by simp) ?_
        refine AllReadyH.cons rfl (fun K hK => ?_) ?_
        · refine step_store_as rfl rfl 59 (.tmp 5) (.tmp 48) rfl g5 0 (smL id lk 0 (.slice none 0 0) ss.length).toArray rfl rfl (HZ.out.there 0 _ (by show 0 + 11 ≤ 11; decide)) (by kernel_rfl) (all_oneCell_toArray smL_one) ?_
          refine after_put 0 (smL id lk 0 (.slice none 0 0) ss.length) _ HZ.out (by show 0 + 11 ≤ 11; decide) rfl (fun w3 hV5 hT5 => ?_)
          have HB3 : Hid (Below X.heap.size X w3) := hide (HB2.out.trans (hT5.below HB2.out.size (fun k hk => by omega)))
          have HV5 := hide hV5
          replace HA := hide (HA.out.apart hT5 X.heap.size (fun k hk => by omega) Hlt1.out)
          replace H3 := hide (H3.out.but hT5 (by have := Hx.out; omega))
          clear hV5 hT5
          refine hK.out _ _ ?_ (fun hHeld => ?_)
          · exact ⟨HA.out.box, H3.out⟩
          clear hK K
          try simp only [Act.put, List.setIfInBounds_toArray, List.set_cons_zero, List.set_cons_succ]
          refine wpAnyH_done (by kernel_rfl) ?_ _
          go_wp2_with fail
          go_meet
          exact ⟨g5, rfl, HV5.out, Hg5W, HB3.out⟩
        exact AllReadyH.nil
      exact AllReadyH.nil
    exact AllReadyH.nil
  case rest =>
  obtain ⟨g5, rfl, h5, hg5, hb5⟩ := hcut
  obtain ⟨X1, hX1⟩ : ∃ V : World, V = wc := ⟨_, rfl⟩
  rw [← hX1] at h5 hb5 ⊢
  replace HA := hide (HA.out.below hb5)
  replace H3 := hide (H3.out.below hb5)
  replace H4 := hide (H4.out.below hb5)
  replace HG1 := hide (HG1.out.below hb5)
  replace HG2 := hide (HG2.out.below hb5)
  replace HS := hide (HS.out.below hb5)
  have H5 := hide h5
  have Hg5 : Hid (w.heap.size + 2 ≤ g5) := hide (by have := Hx.out; omega)
  have Hd5 : Hid (x ≠ g5 ∧ g1 ≠ g5 ∧ g2 ≠ g5) := hide (by have := Hlt1.out.1; have := HGX.out; omega)
  replace HW := hide (HW.out.afterBelow hb5)
  replace Hx : Hid (w.heap.size + 2 ≤ X1.heap.size) := hide (by have := Hx.out; have := hb5.size; omega)
  have Hm5 : Hid (mf ≠ g5 ∧ mp ≠ g5 ∧ mr ≠ g5 ∧ mx ≠ g5) := hide (by have := Hlt1.out; omega)
  have Hs5 : Hid (sb ≠ g5) := hide (by have := HSX.out; omega)
  have Hlt2 := hide HA.out.lt
  clear hX1 h5 hg5 hb5 Hlt1 HGX HSX
  have q4 : X1.cell? ⟨x, 4, none⟩ = some (.slice (some ⟨g1, 0, none⟩) 1 d1) := HA.out.box.1 4 _ rfl
  go_upto_block 0 with (fail)
  go_cut [] (fun wx => ∃ lo, BoxAt wx g5 (smL id lk lo (.slice none 0 0) ss.length) ∧ An wx x mf mp mr mx lk (.slice (some ⟨g1, 0, none⟩) 1 d1) (.slice (some ⟨g2, 0, none⟩) 1 d2) b lv id ds (.string nm) (.slice (some ⟨sb, 0, none⟩) ss.length ss.length) (.slice As ns cs) [(.agg #[.int .i64 pa1, .int .i64 pb1, .int .i64 ps1], .bool true)] lx ∧ BoxAt wx w.heap.size (saL (.slice A1 0 c1) (.slice A2 0 c2) 0 pa) ∧ BoxAt wx (w.heap.size + 1) pfZ ∧ BoxAt wx g2 (fcL (.slice A1 0 c1) (.slice A2 0 c2) 0 0 pa) ∧ BodyAt wx sb ss ∧ But (fun k => k = g5) X1 wx)
  case first =>
    go_wp2_with fail
    refine wp_loop_rounds 2 ?_
    rw [rounds_succ]
    go_upto_region 7 with (first
      | ((with_reducible refine wpList_load_mid ?_ 57 (.tmp 58) ?_ (g1) (0) ?_ abL _ ?_ Tryz.underlying57 ?_ ?_ ?_); (focus rfl); (focus rfl); (focus rfl); (focus exact HG1.out.whole); (focus rfl); (focus kernel_rfl))
      | ((with_reducible refine wpList_store_new ?_ ?_ 57 (.tmp 7) (.tmp 59) ?_ abL ?_ ?_ ?_ ?_ ?_ ?_); (focus rfl); (focus rfl); (focus rfl); (focus rfl); (focus rfl); (focus rfl); (focus kernel_rfl); (focus exact abL_one); intro V7 hV7 hbV7; have HV7 := hide hV7; have HbV7 := hide hbV7; clear hV7 hbV7))
    have H75 : Hid (X1.heap.size ≠ g5) := hide (by have := H5.out.2.2; omega)
    replace HA := hide (HA.out.below HbV7.out)
    replace H3 := hide (H3.out.below HbV7.out)
    replace H4 := hide (H4.out.below HbV7.out)
    replace HG1 := hide (HG1.out.below HbV7.out)
    replace HG2 := hide (HG2.out.below HbV7.out)
    replace HS := hide (HS.out.below HbV7.out)
    replace H5 := hide (H5.out.below HbV7.out)
    have HT : Hid (But (fun k => k = g5) X1 V7) := hide (Below.but HbV7.out _)
    refine wp_region_held_drew (S := fun w' => BoxAt w' x (anL mf mp mr lk (.slice (some ⟨g1, 0, none⟩) 1 d1) (.slice (some ⟨g2, 0, none⟩) 1 d2) mx b lv id ds (.string nm) (.slice (some ⟨sb, 0, none⟩) ss.length ss.length) (.slice As ns cs)) ∧ BoxAt w' g2 (fcL (.slice A1 0 c1) (.slice A2 0 c2) 0 0 pa) ∧ BoxAt w' X1.heap.size abL) (by kernel_rfl) ?_ (fun hHeld => ?_)
    · exact ⟨HA.out.box.below (Below.refl _ _).drew, HG2.out.below (Below.refl _ _).drew, HV7.out.below (Below.refl _ _).drew⟩
    generalize hw0 : World.drew V7 = w0 at hHeld ⊢
    have HB0 : Hid (Below V7.heap.size V7 w0) := hide (by rw [← hw0]; exact (Below.refl _ V7).drew)
    replace HA := hide (HA.out.below HB0.out)
    replace H3 := hide (H3.out.below HB0.out)
    replace H4 := hide (H4.out.below HB0.out)
    replace HG1 := hide (HG1.out.below HB0.out)
    replace HG2 := hide (HG2.out.below HB0.out)
    replace HS := hide (HS.out.below HB0.out)
    replace H5 := hide (H5.out.below HB0.out)
    replace HV7 := hide (HV7.out.below HB0.out)
    replace HT := hide (HT.out.afterBelow HB0.out)
    clear hw0
    refine take_as 0 (some 62) rfl rfl (by kernel_rfl) (by kernel_rfl) (by kernel_rfl) (fun _ _ _ h => h) (yieldsIf_load_mid (by rfl) 57 (.tmp 7) rfl X1.heap.size 0 rfl abL _ (fun w2 hSw => hSw.2.2.whole) Tryz.underlying57 rfl (by kernel_rfl)) (by assumption) ?_
    try simp only [Act.put, List.setIfInBounds_toArray, List.set_cons_zero, List.set_cons_succ]
    refine take_as 1 (some 63) (v := ?_) rfl rfl (by kernel_rfl) (by kernel_rfl) (by kernel_rfl) (fun _ _ _ h => h) (Or.inl ⟨by rfl, ?_⟩) (by assumption) ?_
    rotate_left 1
    · intro w2 hSw
      go_simp
      try with_reducible rfl
    try simp only [Act.put, List.setIfInBounds_toArray, List.set_cons_zero, List.set_cons_succ]
    refine take_as 2 (some 64) (v := ?_) rfl rfl (by kernel_rfl) (by kernel_rfl) (by kernel_rfl) (fun _ _ _ h => h) (Or.inl ⟨by rfl, ?_⟩) (by assumption) ?_
    rotate_left 1
    · intro w2 hSw
      go_simp
      try with_reducible rfl
    try simp only [Act.put, List.setIfInBounds_toArray, List.set_cons_zero, List.set_cons_succ]
    refine take_as 3 (some 65) (v := ?_) rfl rfl (by kernel_rfl) (by kernel_rfl) (by kernel_rfl) (fun _ _ _ h => h) (Or.inl ⟨by rfl, ?_⟩) (by assumption) ?_
    rotate_left 1
    · intro w2 hSw
      go_simp
      try with_reducible rfl
    try simp only [Act.put, List.setIfInBounds_toArray, List.set_cons_zero, List.set_cons_succ]
    refine take_as 4 (some 66) (v := ?_) rfl rfl (by kernel_rfl) (by kernel_rfl) (by kernel_rfl) (fun _ _ _ h => h) (Or.inl ⟨by rfl, ?_⟩) (by assumption) ?_
    rotate_left 1
    · intro w2 hSw
      go_simp
      try with_reducible rfl
    try simp only [Act.put, List.setIfInBounds_toArray, List.set_cons_zero, List.set_cons_succ]
    refine take_as 5 (some 67) (v := ?_) rfl rfl (by kernel_rfl) (by kernel_rfl) (by kernel_rfl) (fun _ _ _ h => h) (Or.inl ⟨by rfl, ?_⟩) (by assumption) ?_
    rotate_left 1
    · intro w2 hSw
      have hl := hSw.1.1 5 _ rfl
      go_simp
      try with_reducible rfl
    try simp only [Act.put, List.setIfInBounds_toArray, List.set_cons_zero, List.set_cons_succ]
    refine take_as 6 (some 68) (v := ?_) rfl rfl (by kernel_rfl) (by kernel_rfl) (by kernel_rfl) (fun _ _ _ h => h) (Or.inl ⟨by rfl, ?_⟩) (by assumption) ?_
    rotate_left 1
    · intro w2 hSw
      go_simp
      try with_reducible rfl
    try simp only [Act.put, List.setIfInBounds_toArray, List.set_cons_zero, List.set_cons_succ]
    refine take_as 7 (some 69) (v := ?_) rfl rfl (by kernel_rfl) (by kernel_rfl) (by kernel_rfl) (fun _ _ _ h => h) (Or.inl ⟨by rfl, ?_⟩) (by assumption) ?_
    rotate_left 1
    · intro w2 hSw
      go_simp
      try with_reducible rfl
    try simp only [Act.put, List.setIfInBounds_toArray, List.set_cons_zero, List.set_cons_succ]
    refine take_as 8 (some 70) (v := ?_) rfl rfl (by kernel_rfl) (by kernel_rfl) (by kernel_rfl) (fun _ _ _ h => h) (Or.inl ⟨by rfl, ?_⟩) (by assumption) ?_
    rotate_left 1
    · intro w2 hSw
      have hl := hSw.2.1.1 7 _ rfl
      go_simp
      try with_reducible rfl
    try simp only [Act.put, List.setIfInBounds_toArray, List.set_cons_zero, List.set_cons_succ]
    refine take_as 9 (some 71) (v := ?_) rfl rfl (by kernel_rfl) (by kernel_rfl) (by kernel_rfl) (fun _ _ _ h => h) (Or.inl ⟨by rfl, ?_⟩) (by assumption) ?_
    rotate_left 1
    · intro w2 hSw
      go_simp
      try with_reducible rfl
    try simp only [Act.put, List.setIfInBounds_toArray, List.set_cons_zero, List.set_cons_succ]
    refine wpAnyH_ready (rs := [10]) (by kernel_rfl) (by simp) ?_
    refine AllReadyH.cons rfl (fun K hK => ?_) ?_
    · refine step_store_as rfl rfl 57 (.tmp 71) (.tmp 62) rfl g5 1 abL.toArray rfl rfl (H5.out.there 1 _ (by show 1 + 5 ≤ 11; decide)) (by kernel_rfl) (all_oneCell_toArray abL_one) ?_
      refine after_put 1 abL (smL id lk 0 (.slice none 0 0) ss.length) H5.out (by show 1 + 5 ≤ 11; decide) rfl (fun w1 hV5 hT5 => ?_)
      have H5 := hide hV5
      replace HV7 := hide (HV7.out.but hT5 (by have := H75.out; omega))
      replace HA := hide (anBut HA.out hT5 Hd5.out.1 Hm5.out)
      replace H3 := hide (H3.out.but hT5 (by have := Hd5.out; have := Hg5.out; omega))
      replace H4 := hide (H4.out.but hT5 (by have := Hd5.out; have := Hg5.out; omega))
      replace HG1 := hide (HG1.out.but hT5 (by have := Hd5.out; have := Hg5.out; omega))
      replace HG2 := hide (HG2.out.but hT5 (by have := Hd5.out; have := Hg5.out; omega))
      replace HS := hide (BoxAt.but HS.out hT5 (Hs5.out))
      replace HT := hide (HT.out.trans hT5)
      clear hV5 hT5
      refine hK.out _ _ ?_ (fun hHeld => ?_)
      · exact ⟨HA.out.box, HG2.out, HV7.out⟩
      clear hK K
      try simp only [Act.put, List.setIfInBounds_toArray, List.set_cons_zero, List.set_cons_succ]
      refine take_as 11 (some 72) (v := ?_) rfl rfl (by kernel_rfl) (by kernel_rfl) (by kernel_rfl) (fun _ _ _ h => h) (Or.inl ⟨by rfl, ?_⟩) (by assumption) ?_
      rotate_left 1
      · intro w2 hSw
        go_simp
        try with_reducible rfl
      try simp only [Act.put, List.setIfInBounds_toArray, List.set_cons_zero, List.set_cons_succ]
      refine wpAnyH_ready (rs := [12]) (by kernel_rfl) (by simp) ?_
      refine AllReadyH.cons rfl (fun K hK => ?_) ?_
      · have hc := H5.out.1 8 _ rfl
        have hf := H5.out.2.1 8
        go_simp
        refine name_world (fun w2 hwn => ?_)
        have hT5 : But (fun k => k = g5) w1 w2 := by rw [hwn]; exact But.setCell (S := fun k => k = g5) (But.refl _ _) (p := ⟨g5, 8, none⟩) rfl _
        obtain ⟨lo7, hlo⟩ : ∃ lo, BoxAt w2 g5 (smL id lk lo (.slice none 0 0) ss.length) := ⟨_, by rw [hwn]; exact (H5.out.set 8 (by show 8 < 11; decide) _).as rfl⟩
        have H5 := hide hlo
        replace HV7 := hide (HV7.out.but hT5 (by have := H75.out; omega))
        replace HA := hide (anBut HA.out hT5 Hd5.out.1 Hm5.out)
        replace H3 := hide (H3.out.but hT5 (by have := Hd5.out; have := Hg5.out; omega))
        replace H4 := hide (H4.out.but hT5 (by have := Hd5.out; have := Hg5.out; omega))
        replace HG1 := hide (HG1.out.but hT5 (by have := Hd5.out; have := Hg5.out; omega))
        replace HG2 := hide (HG2.out.but hT5 (by have := Hd5.out; have := Hg5.out; omega))
        replace HS := hide (BoxAt.but HS.out hT5 (Hs5.out))
        replace HT := hide (HT.out.trans hT5)
        clear hlo hT5 hwn hc hf
        refine hK.out _ _ ?_ (fun hHeld => ?_)
        · exact ⟨HA.out.box, HG2.out, HV7.out⟩
        clear hK K
        try simp only [Act.put, List.setIfInBounds_toArray, List.set_cons_zero, List.set_cons_succ]
        refine wpAnyH_done (by kernel_rfl) ?_ _
        go_upto_region 8 with (fail)
        obtain ⟨V8, hV8⟩ : ∃ V, V = w2 := ⟨_, rfl⟩
        rw [← hV8] at H5 HA H3 H4 HG1 HG2 HS HT HV7 ⊢
        clear hV8
        refine wp_region_held_drew (S := fun w' => BoxAt w' x (anL mf mp mr lk (.slice (some ⟨g1, 0, none⟩) 1 d1) (.slice (some ⟨g2, 0, none⟩) 1 d2) mx b lv id ds (.string nm) (.slice (some ⟨sb, 0, none⟩) ss.length ss.length) (.slice As ns cs)) ∧ BoxAt w' g2 (fcL (.slice A1 0 c1) (.slice A2 0 c2) 0 0 pa) ∧ BoxAt w' X1.heap.size abL) (by kernel_rfl) ?_ (fun hHeld => ?_)
        · exact ⟨HA.out.box.below (Below.refl _ _).drew, HG2.out.below (Below.refl _ _).drew, HV7.out.below (Below.refl _ _).drew⟩
        generalize hw0 : World.drew V8 = w0 at hHeld ⊢
        have HB0 : Hid (Below V8.heap.size V8 w0) := hide (by rw [← hw0]; exact (Below.refl _ V8).drew)
        replace HA := hide (HA.out.below HB0.out)
        replace H3 := hide (H3.out.below HB0.out)
        replace H4 := hide (H4.out.below HB0.out)
        replace HG1 := hide (HG1.out.below HB0.out)
        replace HG2 := hide (HG2.out.below HB0.out)
        replace HS := hide (HS.out.below HB0.out)
        replace H5 := hide (H5.out.below HB0.out)
        replace HV7 := hide (HV7.out.below HB0.out)
        replace HT := hide (HT.out.afterBelow HB0.out)
        clear hw0
        refine take_as 0 (some 73) (v := ?_) rfl rfl (by kernel_rfl) (by kernel_rfl) (by kernel_rfl) (fun _ _ _ h => h) (Or.inl ⟨by rfl, ?_⟩) (by assumption) ?_
        rotate_left 1
        · intro w2 hSw
          go_simp
          try with_reducible rfl
        try simp only [Act.put, List.setIfInBounds_toArray, List.set_cons_zero, List.set_cons_succ]
        refine take_as 2 (some 75) rfl rfl (by kernel_rfl) (by kernel_rfl) (by kernel_rfl) (fun _ _ _ h => h) (yieldsIf_load_mid (by rfl) 57 (.tmp 7) rfl X1.heap.size 0 rfl abL _ (fun w2 hSw => hSw.2.2.whole) Tryz.underlying57 rfl (by kernel_rfl)) (by assumption) ?_
        try simp only [Act.put, List.setIfInBounds_toArray, List.set_cons_zero, List.set_cons_succ]
        refine take_as 4 (some 77) (v := ?_) rfl rfl (by kernel_rfl) (by kernel_rfl) (by kernel_rfl) (fun _ _ _ h => h) (Or.inl ⟨by rfl, ?_⟩) (by assumption) ?_
        rotate_left 1
        · intro w2 hSw
          go_simp
          try with_reducible rfl
        try simp only [Act.put, List.setIfInBounds_toArray, List.set_cons_zero, List.set_cons_succ]
        refine take_as 6 (some 79) (v := ?_) rfl rfl (by kernel_rfl) (by kernel_rfl) (by kernel_rfl) (fun _ _ _ h => h) (Or.inl ⟨by rfl, ?_⟩) (by assumption) ?_
        rotate_left 1
        · intro w2 hSw
          go_simp
          try with_reducible rfl
        try simp only [Act.put, List.setIfInBounds_toArray, List.set_cons_zero, List.set_cons_succ]
        refine take_as 7 (some 80) (v := ?_) rfl rfl (by kernel_rfl) (by kernel_rfl) (by kernel_rfl) (fun _ _ _ h => h) (Or.inl ⟨by rfl, ?_⟩) (by assumption) ?_
        rotate_left 1
        · intro w2 hSw
          go_simp
          try with_reducible rfl
        try simp only [Act.put, List.setIfInBounds_toArray, List.set_cons_zero, List.set_cons_succ]
        refine take_as 8 (some 81) (v := ?_) rfl rfl (by kernel_rfl) (by kernel_rfl) (by kernel_rfl) (fun _ _ _ h => h) (Or.inl ⟨by rfl, ?_⟩) (by assumption) ?_
        rotate_left 1
        · intro w2 hSw
          go_simp
          try with_reducible rfl
        try simp only [Act.put, List.setIfInBounds_toArray, List.set_cons_zero, List.set_cons_succ]
        refine take_as 9 (some 82) (v := ?_) rfl rfl (by kernel_rfl) (by kernel_rfl) (by kernel_rfl) (fun _ _ _ h => h) (Or.inl ⟨by rfl, ?_⟩) (by assumption) ?_
        rotate_left 1
        · intro w2 hSw
          go_simp
          try with_reducible rfl
        try simp only [Act.put, List.setIfInBounds_toArray, List.set_cons_zero, List.set_cons_succ]
        refine take_as 10 (some 83) (v := ?_) rfl rfl (by kernel_rfl) (by kernel_rfl) (by kernel_rfl) (fun _ _ _ h => h) (Or.inl ⟨by rfl, ?_⟩) (by assumption) ?_
        rotate_left 1
        · intro w2 hSw
          have hl := hSw.1.1 5 _ rfl
          go_simp
          try with_reducible rfl
        try simp only [Act.put, List.setIfInBounds_toArray, List.set_cons_zero, List.set_cons_succ]
        refine take_as 11 (some 84) (v := ?_) rfl rfl (by kernel_rfl) (by kernel_rfl) (by kernel_rfl) (fun _ _ _ h => h) (Or.inl ⟨by rfl, ?_⟩) (by assumption) ?_
        rotate_left 1
        · intro w2 hSw
          go_simp
          try with_reducible rfl
        try simp only [Act.put, List.setIfInBounds_toArray, List.set_cons_zero, List.set_cons_succ]
        refine take_as 12 (some 85) (v := ?_) rfl rfl (by kernel_rfl) (by kernel_rfl) (by kernel_rfl) (fun _ _ _ h => h) (Or.inl ⟨by rfl, ?_⟩) (by assumption) ?_
        rotate_left 1
        · intro w2 hSw
          go_simp
          try with_reducible rfl
        try simp only [Act.put, List.setIfInBounds_toArray, List.set_cons_zero, List.set_cons_succ]
        refine take_as 13 (some 86) (v := ?_) rfl rfl (by kernel_rfl) (by kernel_rfl) (by kernel_rfl) (fun _ _ _ h => h) (Or.inl ⟨by rfl, ?_⟩) (by assumption) ?_
        rotate_left 1
        · intro w2 hSw
          go_simp
          try with_reducible rfl
        try simp only [Act.put, List.setIfInBounds_toArray, List.set_cons_zero, List.set_cons_succ]
        refine take_as 14 (some 87) (v := ?_) rfl rfl (by kernel_rfl) (by kernel_rfl) (by kernel_rfl) (fun _ _ _ h => h) (Or.inl ⟨by rfl, ?_⟩) (by assumption) ?_
        rotate_left 1
        · intro w2 hSw
          have hl := hSw.2.1.1 7 _ rfl
          go_simp
          try with_reducible rfl
        try simp only [Act.put, List.setIfInBounds_toArray, List.set_cons_zero, List.set_cons_succ]
        refine wpAnyH_ready (rs := [1, 5]) (by kernel_rfl) (by simp) ?_
        refine AllReadyH.cons rfl (fun K hK => ?_) ?_
        · refine step_load_as (some 74) rfl rfl 57 (.tmp 73) rfl g5 1 rfl abL _ (H5.out.sub 1 _ rfl) Tryz.underlying57 rfl (by kernel_rfl) ?_
          have HB1 := HB0
          refine hK.out _ _ ?_ (fun hHeld => ?_)
          · exact ⟨HA.out.box, HG2.out, HV7.out⟩
          clear hK K
          try simp only [Act.put, List.setIfInBounds_toArray, List.set_cons_zero, List.set_cons_succ]
          refine wpAnyH_ready (rs := [3, 5]) (by kernel_rfl) (by simp) ?_
          refine AllReadyH.cons rfl (fun K hK => ?_) ?_
          · go_simp
            refine (spanjoin_zero _).mono ?_
            rintro e w2 ⟨rfl, hbn⟩
            have HB2 := HB1
            replace HA := hide (HA.out.below hbn)
            replace H3 := hide (H3.out.below hbn)
            replace H4 := hide (H4.out.below hbn)
            replace HG1 := hide (HG1.out.below hbn)
            replace HG2 := hide (HG2.out.below hbn)
            replace HS := hide (HS.out.below hbn)
            replace H5 := hide (H5.out.below hbn)
            replace HV7 := hide (HV7.out.below hbn)
            replace HT := hide (HT.out.afterBelow hbn)
            clear hbn
            go_wp2_with fail
            refine hK.out _ _ ?_ (fun hHeld => ?_)
            · exact ⟨HA.out.box, HG2.out, HV7.out⟩
            clear hK K
            try simp only [Act.put, List.setIfInBounds_toArray, List.set_cons_zero, List.set_cons_succ]
            refine wpAnyH_ready (rs := [5]) (by kernel_rfl) (by simp) ?_
            refine AllReadyH.cons rfl (fun K hK => ?_) ?_
            · have hl := H5.out.1 8 _ rfl
              go_simp
              clear hl
              have HB3 := HB2
              refine hK.out _ _ ?_ (fun hHeld => ?_)
              · exact ⟨HA.out.box, HG2.out, HV7.out⟩
              clear hK K
              try simp only [Act.put, List.setIfInBounds_toArray, List.set_cons_zero, List.set_cons_succ]
              refine take_as 15 (some 88) (v := ?_) rfl rfl (by kernel_rfl) (by kernel_rfl) (by kernel_rfl) (fun _ _ _ h => h) (Or.inl ⟨by rfl, ?_⟩) (by assumption) ?_
              rotate_left 1
              · intro w2 hSw
                go_simp
                try with_reducible rfl
              try simp only [Act.put, List.setIfInBounds_toArray, List.set_cons_zero, List.set_cons_succ]
              refine take_as 16 (some 89) (v := ?_) rfl rfl (by kernel_rfl) (by kernel_rfl) (by kernel_rfl) (fun _ _ _ h => h) (Or.inl ⟨by rfl, ?_⟩) (by assumption) ?_
              rotate_left 1
              · intro w2 hSw
                go_simp
                try with_reducible rfl
              try simp only [Act.put, List.setIfInBounds_toArray, List.set_cons_zero, List.set_cons_succ]
              refine wpAnyH_ready (rs := [17]) (by kernel_rfl) (by simp) ?_
              refine AllReadyH.cons rfl (fun K hK => ?_) ?_
              · refine step_store_as rfl rfl 57 (.tmp 89) (.tmp 76) rfl g5 1 abL.toArray rfl rfl (H5.out.there 1 _ (by show 1 + 5 ≤ 11; decide)) (by kernel_rfl) (all_oneCell_toArray abL_one) ?_
                refine after_put 1 abL (smL id lk lo7 (.slice none 0 0) ss.length) H5.out (by show 1 + 5 ≤ 11; decide) rfl (fun w4 hV5 hT5 => ?_)
                have H5 := hide hV5
                replace HV7 := hide (HV7.out.but hT5 (by have := H75.out; omega))
                replace HA := hide (anBut HA.out hT5 Hd5.out.1 Hm5.out)
                replace H3 := hide (H3.out.but hT5 (by have := Hd5.out; have := Hg5.out; omega))
                replace H4 := hide (H4.out.but hT5 (by have := Hd5.out; have := Hg5.out; omega))
                replace HG1 := hide (HG1.out.but hT5 (by have := Hd5.out; have := Hg5.out; omega))
                replace HG2 := hide (HG2.out.but hT5 (by have := Hd5.out; have := Hg5.out; omega))
                replace HS := hide (BoxAt.but HS.out hT5 (Hs5.out))
                replace HT := hide (HT.out.trans hT5)
                clear hV5 hT5
                refine hK.out _ _ ?_ (fun hHeld => ?_)
                · exact ⟨HA.out.box, HG2.out, HV7.out⟩
                clear hK K
                try simp only [Act.put, List.setIfInBounds_toArray, List.set_cons_zero, List.set_cons_succ]
                refine take_as 18 (some 90) (v := ?_) rfl rfl (by kernel_rfl) (by kernel_rfl) (by kernel_rfl) (fun _ _ _ h => h) (Or.inl ⟨by rfl, ?_⟩) (by assumption) ?_
                rotate_left 1
                · intro w2 hSw
                  go_simp
                  try with_reducible rfl
                try simp only [Act.put, List.setIfInBounds_toArray, List.set_cons_zero, List.set_cons_succ]
                refine wpAnyH_ready (rs := [19]) (by kernel_rfl) (by simp) ?_
                refine AllReadyH.cons rfl (fun K hK => ?_) ?_
                · have hc := H5.out.1 8 _ rfl
                  have hf := H5.out.2.1 8
                  go_simp
                  refine name_world (fun w5 hwn => ?_)
                  have hT5 : But (fun k => k = g5) w4 w5 := by rw [hwn]; exact But.setCell (S := fun k => k = g5) (But.refl _ _) (p := ⟨g5, 8, none⟩) rfl _
                  obtain ⟨lo8, hlo⟩ : ∃ lo, BoxAt w5 g5 (smL id lk lo (.slice none 0 0) ss.length) := ⟨_, by rw [hwn]; exact (H5.out.set 8 (by show 8 < 11; decide) _).as rfl⟩
                  have H5 := hide hlo
                  replace HV7 := hide (HV7.out.but hT5 (by have := H75.out; omega))
                  replace HA := hide (anBut HA.out hT5 Hd5.out.1 Hm5.out)
                  replace H3 := hide (H3.out.but hT5 (by have := Hd5.out; have := Hg5.out; omega))
                  replace H4 := hide (H4.out.but hT5 (by have := Hd5.out; have := Hg5.out; omega))
                  replace HG1 := hide (HG1.out.but hT5 (by have := Hd5.out; have := Hg5.out; omega))
                  replace HG2 := hide (HG2.out.but hT5 (by have := Hd5.out; have := Hg5.out; omega))
                  replace HS := hide (BoxAt.but HS.out hT5 (Hs5.out))
                  replace HT := hide (HT.out.trans hT5)
                  clear hlo hT5 hwn hc hf
                  refine hK.out _ _ ?_ (fun hHeld => ?_)
                  · exact ⟨HA.out.box, HG2.out, HV7.out⟩
                  clear hK K
                  try simp only [Act.put, List.setIfInBounds_toArray, List.set_cons_zero, List.set_cons_succ]
                  refine wpAnyH_done (by kernel_rfl) ?_ _
                  go_wp2_with fail
                  rw [rounds_succ]
                  go_wp2_with fail
                  go_meet
                  exact ⟨lo8, H5.out, HA.out, H3.out, H4.out, HG2.out, HS.out, HT.out⟩
                exact AllReadyH.nil
              exact AllReadyH.nil
            exact AllReadyH.nil
          refine AllReadyH.cons rfl (fun K hK => ?_) ?_
          · have hl := H5.out.1 8 _ rfl
            go_simp
            clear hl
            have HB2 := HB1
            refine hK.out _ _ ?_ (fun hHeld => ?_)
            · exact ⟨HA.out.box, HG2.out, HV7.out⟩
            clear hK K
            try simp only [Act.put, List.setIfInBounds_toArray, List.set_cons_zero, List.set_cons_succ]
            refine take_as 15 (some 88) (v := ?_) rfl rfl (by kernel_rfl) (by kernel_rfl) (by kernel_rfl) (fun _ _ _ h => h) (Or.inl ⟨by rfl, ?_⟩) (by assumption) ?_
            rotate_left 1
            · intro w2 hSw
              go_simp
              try with_reducible rfl
            try simp only [Act.put, List.setIfInBounds_toArray, List.set_cons_zero, List.set_cons_succ]
            refine wpAnyH_ready (rs := [3]) (by kernel_rfl) (by simp) ?_
            refine AllReadyH.cons rfl (fun K hK => ?_) ?_
            · go_simp
              refine (spanjoin_zero _).mono ?_
              rintro e w3 ⟨rfl, hbn⟩
              have HB3 := HB2
              replace HA := hide (HA.out.below hbn)
              replace H3 := hide (H3.out.below hbn)
              replace H4 := hide (H4.out.below hbn)
              replace HG1 := hide (HG1.out.below hbn)
              replace HG2 := hide (HG2.out.below hbn)
              replace HS := hide (HS.out.below hbn)
              replace H5 := hide (H5.out.below hbn)
              replace HV7 := hide (HV7.out.below hbn)
              replace HT := hide (HT.out.afterBelow hbn)
              clear hbn
              go_wp2_with fail
              refine hK.out _ _ ?_ (fun hHeld => ?_)
              · exact ⟨HA.out.box, HG2.out, HV7.out⟩
              clear hK K
              try simp only [Act.put, List.setIfInBounds_toArray, List.set_cons_zero, List.set_cons_succ]
              refine take_as 16 (some 89) (v := ?_) rfl rfl (by kernel_rfl) (by kernel_rfl) (by kernel_rfl) (fun _ _ _ h => h) (Or.inl ⟨by rfl, ?_⟩) (by assumption) ?_
              rotate_left 1
              · intro w2 hSw
                go_simp
                try with_reducible rfl
              try simp only [Act.put, List.setIfInBounds_toArray, List.set_cons_zero, List.set_cons_succ]
              refine wpAnyH_ready (rs := [17]) (by kernel_rfl) (by simp) ?_
              refine AllReadyH.cons rfl (fun K hK => ?_) ?_
              · refine step_store_as rfl rfl 57 (.tmp 89) (.tmp 76) rfl g5 1 abL.toArray rfl rfl (H5.out.there 1 _ (by show 1 + 5 ≤ 11; decide)) (by kernel_rfl) (all_oneCell_toArray abL_one) ?_
                refine after_put 1 abL (smL id lk lo7 (.slice none 0 0) ss.length) H5.out (by show 1 + 5 ≤ 11; decide) rfl (fun w4 hV5 hT5 => ?_)
                have H5 := hide hV5
                replace HV7 := hide (HV7.out.but hT5 (by have := H75.out; omega))
                replace HA := hide (anBut HA.out hT5 Hd5.out.1 Hm5.out)
                replace H3 := hide (H3.out.but hT5 (by have := Hd5.out; have := Hg5.out; omega))
                replace H4 := hide (H4.out.but hT5 (by have := Hd5.out; have := Hg5.out; omega))
                replace HG1 := hide (HG1.out.but hT5 (by have := Hd5.out; have := Hg5.out; omega))
                replace HG2 := hide (HG2.out.but hT5 (by have := Hd5.out; have := Hg5.out; omega))
                replace HS := hide (BoxAt.but HS.out hT5 (Hs5.out))
                replace HT := hide (HT.out.trans hT5)
                clear hV5 hT5
                refine hK.out _ _ ?_ (fun hHeld => ?_)
                · exact ⟨HA.out.box, HG2.out, HV7.out⟩
                clear hK K
                try simp only [Act.put, List.setIfInBounds_toArray, List.set_cons_zero, List.set_cons_succ]
                refine take_as 18 (some 90) (v := ?_) rfl rfl (by kernel_rfl) (by kernel_rfl) (by kernel_rfl) (fun _ _ _ h => h) (Or.inl ⟨by rfl, ?_⟩) (by assumption) ?_
                rotate_left 1
                · intro w2 hSw
                  go_simp
                  try with_reducible rfl
                try simp only [Act.put, List.setIfInBounds_toArray, List.set_cons_zero, List.set_cons_succ]
                refine wpAnyH_ready (rs := [19]) (by kernel_rfl) (by simp) ?_
                refine AllReadyH.cons rfl (fun K hK => ?_) ?_
                · have hc := H5.out.1 8 _ rfl
                  have hf := H5.out.2.1 8
                  go_simp
                  refine name_world (fun w5 hwn => ?_)
                  have hT5 : But (fun k => k = g5) w4 w5 := by rw [hwn]; exact But.setCell (S := fun k => k = g5) (But.refl _ _) (p := ⟨g5, 8, none⟩) rfl _
                  obtain ⟨lo8, hlo⟩ : ∃ lo, BoxAt w5 g5 (smL id lk lo (.slice none 0 0) ss.length) := ⟨_, by rw [hwn]; exact (H5.out.set 8 (by show 8 < 11; decide) _).as rfl⟩
                  have H5 := hide hlo
                  replace HV7 := hide (HV7.out.but hT5 (by have := H75.out; omega))
                  replace HA := hide (anBut HA.out hT5 Hd5.out.1 Hm5.out)
                  replace H3 := hide (H3.out.but hT5 (by have := Hd5.out; have := Hg5.out; omega))
                  replace H4 := hide (H4.out.but hT5 (by have := Hd5.out; have := Hg5.out; omega))
                  replace HG1 := hide (HG1.out.but hT5 (by have := Hd5.out; have := Hg5.out; omega))
                  replace HG2 := hide (HG2.out.but hT5 (by have := Hd5.out; have := Hg5.out; omega))
                  replace HS := hide (BoxAt.but HS.out hT5 (Hs5.out))
                  replace HT := hide (HT.out.trans hT5)
                  clear hlo hT5 hwn hc hf
                  refine hK.out _ _ ?_ (fun hHeld => ?_)
                  · exact ⟨HA.out.box, HG2.out, HV7.out⟩
                  clear hK K
                  try simp only [Act.put, List.setIfInBounds_toArray, List.set_cons_zero, List.set_cons_succ]
                  refine wpAnyH_done (by kernel_rfl) ?_ _
                  go_wp2_with fail
                  rw [rounds_succ]
                  go_wp2_with fail
                  go_meet
                  exact ⟨lo8, H5.out, HA.out, H3.out, H4.out, HG2.out, HS.out, HT.out⟩
                exact AllReadyH.nil
              exact AllReadyH.nil
            exact AllReadyH.nil
          exact AllReadyH.nil
        refine AllReadyH.cons rfl (fun K hK => ?_) ?_
        · have hl := H5.out.1 8 _ rfl
          go_simp
          clear hl
          have HB1 := HB0
          refine hK.out _ _ ?_ (fun hHeld => ?_)
          · exact ⟨HA.out.box, HG2.out, HV7.out⟩
          clear hK K
          try simp only [Act.put, List.setIfInBounds_toArray, List.set_cons_zero, List.set_cons_succ]
          refine take_as 15 (some 88) (v := ?_) rfl rfl (by kernel_rfl) (by kernel_rfl) (by kernel_rfl) (fun _ _ _ h => h) (Or.inl ⟨by rfl, ?_⟩) (by assumption) ?_
          rotate_left 1
          · intro w2 hSw
            go_simp
            try with_reducible rfl
          try simp only [Act.put, List.setIfInBounds_toArray, List.set_cons_zero, List.set_cons_succ]
          refine wpAnyH_ready (rs := [1]) (by kernel_rfl) (by simp) ?_
          refine AllReadyH.cons rfl (fun K hK => ?_) ?_
          · refine step_load_as (some 74) rfl rfl 57 (.tmp 73) rfl g5 1 rfl abL _ (H5.out.sub 1 _ rfl) Tryz.underlying57 rfl (by kernel_rfl) ?_
            have HB2 := HB1
            refine hK.out _ _ ?_ (fun hHeld => ?_)
            · exact ⟨HA.out.box, HG2.out, HV7.out⟩
            clear hK K
            try simp only [Act.put, List.setIfInBounds_toArray, List.set_cons_zero, List.set_cons_succ]
            refine wpAnyH_ready (rs := [3]) (by kernel_rfl) (by simp) ?_
            refine AllReadyH.cons rfl (fun K hK => ?_) ?_
            · go_simp
              refine (spanjoin_zero _).mono ?_
              rintro e w3 ⟨rfl, hbn⟩
              have HB3 := HB2
              replace HA := hide (HA.out.below hbn)
              replace H3 := hide (H3.out.below hbn)
              replace H4 := hide (H4.out.below hbn)
              replace HG1 := hide (HG1.out.below hbn)
              replace HG2 := hide (HG2.out.below hbn)
              replace HS := hide (HS.out.below hbn)
              replace H5 := hide (H5.out.below hbn)
              replace HV7 := hide (HV7.out.below hbn)
              replace HT := hide (HT.out.afterBelow hbn)
              clear hbn
              go_wp2_with fail
              refine hK.out _ _ ?_ (fun hHeld => ?_)
              · exact ⟨HA.out.box, HG2.out, HV7.out⟩
              clear hK K
              try simp only [Act.put, List.setIfInBounds_toArray, List.set_cons_zero, List.set_cons_succ]
              refine take_as 16 (some 89) (v := ?_) rfl rfl (by kernel_rfl) (by kernel_rfl) (by kernel_rfl) (fun _ _ _ h => h) (Or.inl ⟨by rfl, ?_⟩) (by assumption) ?_
              rotate_left 1
              · intro w2 hSw
                go_simp
                try with_reducible rfl
              try simp only [Act.put, List.setIfInBounds_toArray, List.set_cons_zero, List.set_cons_succ]
              refine wpAnyH_ready (rs := [17]) (by kernel_rfl) (by simp) ?_
              refine AllReadyH.cons rfl (fun K hK => ?_) ?_
              · refine step_store_as rfl rfl 57 (.tmp 89) (.tmp 76) rfl g5 1 abL.toArray rfl rfl (H5.out.there 1 _ (by show 1 + 5 ≤ 11; decide)) (by kernel_rfl) (all_oneCell_toArray abL_one) ?_
                refine after_put 1 abL (smL id lk lo7 (.slice none 0 0) ss.length) H5.out (by show 1 + 5 ≤ 11; decide) rfl (fun w4 hV5 hT5 => ?_)
                have H5 := hide hV5
                replace HV7 := hide (HV7.out.but hT5 (by have := H75.out; omega))
                replace HA := hide (anBut HA.out hT5 Hd5.out.1 Hm5.out)
                replace H3 := hide (H3.out.but hT5 (by have := Hd5.out; have := Hg5.out; omega))
                replace H4 := hide (H4.out.but hT5 (by have := Hd5.out; have := Hg5.out; omega))
                replace HG1 := hide (HG1.out.but hT5 (by have := Hd5.out; have := Hg5.out; omega))
                replace HG2 := hide (HG2.out.but hT5 (by have := Hd5.out; have := Hg5.out; omega))
                replace HS := hide (BoxAt.but HS.out hT5 (Hs5.out))
                replace HT := hide (HT.out.trans hT5)
                clear hV5 hT5
                refine hK.out _ _ ?_ (fun hHeld => ?_)
                · exact ⟨HA.out.box, HG2.out, HV7.out⟩
                clear hK K
                try simp only [Act.put, List.setIfInBounds_toArray, List.set_cons_zero, List.set_cons_succ]
                refine take_as 18 (some 90) (v := ?_) rfl rfl (by kernel_rfl) (by kernel_rfl) (by kernel_rfl) (fun _ _ _ h => h) (Or.inl ⟨by rfl, ?_⟩) (by assumption) ?_
                rotate_left 1
                · intro w2 hSw
                  go_simp
                  try with_reducible rfl
                try simp only [Act.put, List.setIfInBounds_toArray, List.set_cons_zero, List.set_cons_succ]
                refine wpAnyH_ready (rs := [19]) (by kernel_rfl) (by simp) ?_
                refine AllReadyH.cons rfl (fun K hK => ?_) ?_
                · have hc := H5.out.1 8 _ rfl
                  have hf := H5.out.2.1 8
                  go_simp
                  refine name_world (fun w5 hwn => ?_)
                  have hT5 : But (fun k => k = g5) w4 w5 := by rw [hwn]; exact But.setCell (S := fun k => k = g5) (But.refl _ _) (p := ⟨g5, 8, none⟩) rfl _
                  obtain ⟨lo8, hlo⟩ : ∃ lo, BoxAt w5 g5 (smL id lk lo (.slice none 0 0) ss.length) := ⟨_, by rw [hwn]; exact (H5.out.set 8 (by show 8 < 11; decide) _).as rfl⟩
                  have H5 := hide hlo
                  replace HV7 := hide (HV7.out.but hT5 (by have := H75.out; omega))
                  replace HA := hide (anBut HA.out hT5 Hd5.out.1 Hm5.out)
                  replace H3 := hide (H3.out.but hT5 (by have := Hd5.out; have := Hg5.out; omega))
                  replace H4 := hide (H4.out.but hT5 (by have := Hd5.out; have := Hg5.out; omega))
                  replace HG1 := hide (HG1.out.but hT5 (by have := Hd5.out; have := Hg5.out; omega))
                  replace HG2 := hide (HG2.out.but hT5 (by have := Hd5.out; have := Hg5.out; omega))
                  replace HS := hide (BoxAt.but HS.out hT5 (Hs5.out))
                  replace HT := hide (HT.out.trans hT5)
                  clear hlo hT5 hwn hc hf
                  refine hK.out _ _ ?_ (fun hHeld => ?_)
                  · exact ⟨HA.out.box, HG2.out, HV7.out⟩
                  clear hK K
                  try simp only [Act.put, List.setIfInBounds_toArray, List.set_cons_zero, List.set_cons_succ]
                  refine wpAnyH_done (by kernel_rfl) ?_ _
                  go_wp2_with fail
                  rw [rounds_succ]
                  go_wp2_with fail
                  go_meet
                  exact ⟨lo8, H5.out, HA.out, H3.out, H4.out, HG2.out, HS.out, HT.out⟩
                exact AllReadyH.nil
              exact AllReadyH.nil
            exact AllReadyH.nil
          exact AllReadyH.nil
        exact AllReadyH.nil
      exact AllReadyH.nil
    exact AllReadyH.nil
  case rest =>
  obtain ⟨lo, h5, ha, h3, h4, hg2, hs, hT⟩ := hcut
  obtain ⟨X2, hX2⟩ : ∃ V : World, V = wc := ⟨_, rfl⟩
  rw [← hX2] at h5 ha h3 h4 hg2 hs hT ⊢
  replace H5 := hide h5
  replace HA := hide ha
  replace H3 := hide h3
  replace H4 := hide h4
  replace HG2 := hide hg2
  replace HS : Hid (BodyAt X2 sb ss) := hide hs
  replace HW := hide (HW.out.thenNew hT (fun i e => .inr (by have := Hg5.out; omega)))
  replace Hx : Hid (w.heap.size + 2 ≤ X2.heap.size) := hide (by have := Hx.out; have := hT.size; omega)
  clear hX2 h5 ha h3 h4 hg2 hs hT HG1
  have q5 : X2.cell? ⟨x, 5, none⟩ = some (.slice (some ⟨g2, 0, none⟩) 1 d2) := HA.out.box.1 5 _ rfl
  have qD : X2.cell? ⟨w.heap.size, 8, none⟩ = some (.bool true) := H3.out.1 8 _ rfl
  go_upto_block 2 with (fail)
  go_cut [] (fun wx => Below X2.heap.size X2 wx)
  case first =>
    go_wp2_with fail
    refine wp_loop_rounds 2 ?_
    rw [rounds_succ]
    go_wp2_with (first
      | ((with_reducible refine wpList_load_mid ?_ 164 (.tmp 111) ?_ (g2) (0) ?_ (fcL (.slice A1 0 c1) (.slice A2 0 c2) 0 0 pa) _ ?_ Tryz.underlying164 ?_ ?_ ?_); (focus rfl); (focus rfl); (focus rfl); (focus exact HG2.out.whole); (focus rfl); (focus kernel_rfl))
      | (((with_reducible refine wpList_store_new ?_ ?_ 164 (.tmp 10) (.tmp 112) ?_ (fcL (.slice A1 0 c1) (.slice A2 0 c2) 0 0 pa) ?_ ?_ ?_ ?_ ?_ ?_); (focus rfl); (focus rfl); (focus rfl); (focus rfl); (focus rfl); (focus rfl); (focus kernel_rfl); (focus exact fcL_one); intro V9 hV9 hbV9; have HV9 := hide hV9; have HbV9 := hide hbV9; clear hV9 hbV9); have c3 : V9.cell? ⟨X2.heap.size, 3, none⟩ = some (.slice none 0 0) := HV9.out.1 3 _ rfl; have c6 : V9.cell? ⟨X2.heap.size, 6, none⟩ = some (.int .i64 0) := HV9.out.1 6 _ rfl)
      | (go_at_call 102; refine (contains_ref_nil _ _).mono ?_; rintro e w1 ⟨rfl, rfl⟩)
      | (go_at_call 101; refine (atend_false _ _ _).mono ?_; rintro e w1 ⟨rfl, rfl⟩))
    rw [rounds_succ]
    go_wp2_with fail
    go_meet
    exact HbV9.out
  case rest =>
  have hcut := hcut
  obtain ⟨X3, hX3⟩ : ∃ V : World, V = wc := ⟨_, rfl⟩
  rw [← hX3] at hcut ⊢
  replace HA := hide (HA.out.below hcut)
  replace H3 := hide (H3.out.below hcut)
  replace H4 := hide (H4.out.below hcut)
  replace HG2 := hide (HG2.out.below hcut)
  replace HS := hide (HS.out.below hcut)
  replace H5 := hide (H5.out.below hcut)
  replace HW := hide (HW.out.afterBelow hcut)
  replace Hx : Hid (w.heap.size + 2 ≤ X3.heap.size) := hide (by have := Hx.out; have := hcut.size; omega)
  clear hX3 hcut q5 qD
  go_wp2_with fail
  have hd100 : decide ((100 : Int) < (ss.length : Int)) = false := by have := Hlen.out; simp; omega
  go_cut [] (fun wx => Below X3.heap.size X3 wx)
  case first =>
    refine wp_region_held_drew (S := fun w' => BoxAt w' x (anL mf mp mr lk (.slice (some ⟨g1, 0, none⟩) 1 d1) (.slice (some ⟨g2, 0, none⟩) 1 d2) mx b lv id ds (.string nm) (.slice (some ⟨sb, 0, none⟩) ss.length ss.length) (.slice As ns cs)) ∧ BoxAt w' g5 (smL id lk lo (.slice none 0 0) ss.length)) (by kernel_rfl) ?_ (fun hHeld => ?_)
    · exact ⟨HA.out.box.below (Below.refl _ _).drew, H5.out.below (Below.refl _ _).drew⟩
    generalize hw0 : World.drew X3 = w0 at hHeld ⊢
    have HB0 : Hid (Below X3.heap.size X3 w0) := hide (by rw [← hw0]; exact (Below.refl _ X3).drew)
    replace HA := hide (HA.out.below HB0.out)
    replace H5 := hide (H5.out.below HB0.out)
    clear hw0
    refine take_as 0 (some 124) (v := ?_) rfl rfl (by kernel_rfl) (by kernel_rfl) (by kernel_rfl) (fun _ _ _ h => h) (Or.inl ⟨by rfl, ?_⟩) (by assumption) ?_
    rotate_left 1
    · intro w2 hSw
      go_simp
      try with_reducible rfl
    try simp only [Act.put, List.setIfInBounds_toArray, List.set_cons_zero, List.set_cons_succ]
    refine take_as 1 (some 125) (v := ?_) rfl rfl (by kernel_rfl) (by kernel_rfl) (by kernel_rfl) (fun _ _ _ h => h) (Or.inl ⟨by rfl, ?_⟩) (by assumption) ?_
    rotate_left 1
    · intro w2 hSw
      go_simp
      try with_reducible rfl
    try simp only [Act.put, List.setIfInBounds_toArray, List.set_cons_zero, List.set_cons_succ]
    refine take_as 2 (some 126) (v := ?_) rfl rfl (by kernel_rfl) (by kernel_rfl) (by kernel_rfl) (fun _ _ _ h => h) (Or.inl ⟨by rfl, ?_⟩) (by assumption) ?_
    rotate_left 1
    · intro w2 hSw
      have hl := hSw.2.1 10 _ rfl
      go_simp
      try with_reducible rfl
    try simp only [Act.put, List.setIfInBounds_toArray, List.set_cons_zero, List.set_cons_succ]
    refine take_as 3 (some 127) (v := ?_) rfl rfl (by kernel_rfl) (by kernel_rfl) (by kernel_rfl) (fun _ _ _ h => h) (Or.inl ⟨by rfl, ?_⟩) (by assumption) ?_
    rotate_left 1
    · intro w2 hSw
      go_simp
      try with_reducible rfl
    try simp only [Act.put, List.setIfInBounds_toArray, List.set_cons_zero, List.set_cons_succ]
    refine take_as 4 (some 128) (v := ?_) rfl rfl (by kernel_rfl) (by kernel_rfl) (by kernel_rfl) (fun _ _ _ h => h) (Or.inl ⟨by rfl, ?_⟩) (by assumption) ?_
    rotate_left 1
    · intro w2 hSw
      go_simp
      try with_reducible rfl
    try simp only [Act.put, List.setIfInBounds_toArray, List.set_cons_zero, List.set_cons_succ]
    refine take_as 5 (some 129) (v := ?_) rfl rfl (by kernel_rfl) (by kernel_rfl) (by kernel_rfl) (fun _ _ _ h => h) (Or.inl ⟨by rfl, ?_⟩) (by assumption) ?_
    rotate_left 1
    · intro w2 hSw
      go_simp
      try with_reducible rfl
    try simp only [Act.put, List.setIfInBounds_toArray, List.set_cons_zero, List.set_cons_succ]
    refine take_as 6 (some 130) (v := ?_) rfl rfl (by kernel_rfl) (by kernel_rfl) (by kernel_rfl) (fun _ _ _ h => h) (Or.inl ⟨by rfl, ?_⟩) (by assumption) ?_
    rotate_left 1
    · intro w2 hSw
      go_simp
      try with_reducible rfl
    try simp only [Act.put, List.setIfInBounds_toArray, List.set_cons_zero, List.set_cons_succ]
    refine take_as 7 (some 131) (v := ?_) rfl rfl (by kernel_rfl) (by kernel_rfl) (by kernel_rfl) (fun _ _ _ h => h) (Or.inl ⟨by rfl, ?_⟩) (by assumption) ?_
    rotate_left 1
    · intro w2 hSw
      have hl := hSw.1.1 29 _ rfl
      go_simp
      try with_reducible rfl
    try simp only [Act.put, List.setIfInBounds_toArray, List.set_cons_zero, List.set_cons_succ]
    refine take_as 8 (some 132) (v := ?_) rfl rfl (by kernel_rfl) (by kernel_rfl) (by kernel_rfl) (fun _ _ _ h => h) (Or.inl ⟨by rfl, ?_⟩) (by assumption) ?_
    rotate_left 1
    · intro w2 hSw
      go_simp
      try with_reducible rfl
    try simp only [Act.put, List.setIfInBounds_toArray, List.set_cons_zero, List.set_cons_succ]
    refine wpAnyH_ready (rs := [9]) (by kernel_rfl) (by simp) ?_
    refine AllReadyH.cons rfl (fun K hK => ?_) ?_
    · go_simp
      refine (atend_false _ _ _).mono ?_
      rintro e w1 ⟨rfl, hwx⟩
      have HB1 : Hid (Below X3.heap.size X3 w1) := hide (by rw [← hwx]; exact HB0.out)
      replace HA := hide (hwx ▸ HA.out)
      replace H5 := hide (hwx ▸ H5.out)
      clear hwx
      go_wp2_with fail
      refine hK.out _ _ ?_ (fun hHeld => ?_)
      · exact ⟨HA.out.box, H5.out⟩
      clear hK K
      try simp only [Act.put, List.setIfInBounds_toArray, List.set_cons_zero, List.set_cons_succ]
      refine wpAnyH_done (by kernel_rfl) ?_ _
      go_wp2_with fail
      go_meet
      exact HB1.out
    exact AllReadyH.nil
  case rest =>
  have hcut := hcut
  obtain ⟨X4, hX4⟩ : ∃ V : World, V = wc := ⟨_, rfl⟩
  rw [← hX4] at hcut ⊢
  replace HA := hide (HA.out.below hcut)
  replace H3 := hide (H3.out.below hcut)
  replace H4 := hide (H4.out.below hcut)
  replace HG2 := hide (HG2.out.below hcut)
  replace HS := hide (HS.out.below hcut)
  replace H5 := hide (H5.out.below hcut)
  replace HW := hide (HW.out.afterBelow hcut)
  replace Hx : Hid (w.heap.size + 2 ≤ X4.heap.size) := hide (by have := Hx.out; have := hcut.size; omega)
  clear hX4 hcut hd100
  have q19 : X4.cell? ⟨x, 19, none⟩ = some (.int .i64 id) := HA.out.box.1 19 _ rfl
  go_upto_region 21 with (((with_reducible refine wpList_store_new ?_ ?_ 61 (.tmp 11) (.tmp 139) ?_ (pfL id (.slice none 0 0) smZ (.slice none 0 0) (.slice none 0 0) (.slice none 0 0)) ?_ ?_ ?_ ?_ ?_ ?_); (focus rfl); (focus rfl); (focus rfl); (focus rfl); (focus rfl); (focus rfl); (focus kernel_rfl); (focus exact pfZ_one); intro V11 hV11 hbV11; have HV11 := hide hV11; have HbV11 := hide hbV11; clear hV11 hbV11))
  have HLT : Hid (x < X4.heap.size ∧ mf < X4.heap.size ∧ mp < X4.heap.size ∧ mr < X4.heap.size ∧ mx < X4.heap.size ∧ g2 < X4.heap.size ∧ g5 < X4.heap.size ∧ sb < X4.heap.size ∧ w.heap.size + 1 < X4.heap.size) := hide (by have h1 := HA.out.lt; have h2 := HG2.out.2.2; have h3 := H5.out.2.2; have h4 := HS.out.2.2; have h5 := Hx.out; omega)
  replace HA := hide (HA.out.below HbV11.out)
  replace H3 := hide (H3.out.below HbV11.out)
  replace H4 := hide (H4.out.below HbV11.out)
  replace HG2 := hide (HG2.out.below HbV11.out)
  replace HS := hide (HS.out.below HbV11.out)
  replace H5 := hide (H5.out.below HbV11.out)
  have HT : Hid (But (fun k => k = X4.heap.size) X4 V11) := hide (Below.but HbV11.out _)
  obtain ⟨g11, hg11⟩ : ∃ q, q = X4.heap.size := ⟨_, rfl⟩
  have Hg11 : Hid (X4.heap.size = g11) := hide hg11.symm
  rw [← hg11] at HLT HV11 HT ⊢
  have H11 := HV11
  clear hg11 HbV11 HV11 q19
  have q0 : V11.cell? ⟨x, 0, none⟩ = some (.map (some mf)) := HA.out.box.1 0 _ rfl
  have q1 : V11.cell? ⟨x, 1, none⟩ = some (.map (some mp)) := HA.out.box.1 1 _ rfl
  have q2 : V11.cell? ⟨x, 2, none⟩ = some (.map (some mr)) := HA.out.box.1 2 _ rfl
  go_upto_region 22 with (first
    | (go_at_call 104; refine (keys_finding_nil mf _ _ HA.out.fnd).mono ?_; rintro e w20 ⟨rfl, hb1⟩; replace HT := hide (HT.out.afterBelow hb1); replace HA := hide (HA.out.below hb1); replace H3 := hide (H3.out.below hb1); replace H4 := hide (H4.out.below hb1); replace HG2 := hide (HG2.out.below hb1); replace HS := hide (HS.out.below hb1); replace H5 := hide (H5.out.below hb1); replace H11 := hide (H11.out.below hb1);  clear hb1)
    | ((with_reducible refine wpList_store_cell ?_ ?_ ?_ 33 (.tmp 146) (.tmp 145) ?_ g11 13 (pfL id (.slice none 0 0) smZ (.slice none 0 0) (.slice none 0 0) (.slice none 0 0)) (.slice none 0 0) (pfL id (.slice none 0 0) smZ (.slice none 0 0) (.slice none 0 0) (.slice none 0 0)) ?_ ?_ ?_ ?_ ?_ ?_ ?_ ?_); (focus rfl); (focus rfl); (focus rfl); (focus rfl); (focus rfl); (focus rfl); (focus exact H11.out); (focus (show 13 < 16; decide)); (focus rfl); (focus rfl); (focus kernel_rfl); intro V21 hV21 hTV21; have H11 := hide hV21; replace HT := hide (HT.out.trans hTV21); replace HA := hide (anBut HA.out hTV21 (by have := HLT.out; omega) (by have := HLT.out; omega)); replace H3 := hide (BoxAt.but H3.out hTV21 (by have := HLT.out; omega)); replace H4 := hide (BoxAt.but H4.out hTV21 (by have := HLT.out; omega)); replace HG2 := hide (BoxAt.but HG2.out hTV21 (by have := HLT.out; omega)); replace HS := hide (BoxAt.but HS.out hTV21 (by have := HLT.out; omega)); replace H5 := hide (BoxAt.but H5.out hTV21 (by have := HLT.out; omega));  clear hV21 hTV21))
  clear q0 q1 q2
  have q1 : V21.cell? ⟨x, 1, none⟩ = some (.map (some mp)) := HA.out.box.1 1 _ rfl
  go_upto_region 23 with (first
    | (go_at_call 106; refine (keys_pair_one mp _ pa1 pb1 ps1 _ HA.out.prs).mono ?_; rintro e w21 ⟨gp, cp, rfl, hgp, hbp, hb1⟩; have HGP := hide hbp; have HgP : Hid (g11 < gp) := hide (by have := H11.out.2.2; omega); replace HT := hide (HT.out.afterBelow hb1); replace HA := hide (HA.out.below hb1); replace H3 := hide (H3.out.below hb1); replace H4 := hide (H4.out.below hb1); replace HG2 := hide (HG2.out.below hb1); replace HS := hide (HS.out.below hb1); replace H5 := hide (H5.out.below hb1); replace H11 := hide (H11.out.below hb1);  clear hb1 hgp hbp)
    | ((with_reducible refine wpList_store_cell ?_ ?_ ?_ 24 (.tmp 153) (.tmp 152) ?_ g11 14 (pfL id (.slice none 0 0) smZ (.slice none 0 0) (.slice none 0 0) (.slice none 0 0)) (.slice (some ⟨gp, 0, none⟩) 1 cp) (pfL id (.slice none 0 0) smZ (.slice none 0 0) (.slice (some ⟨gp, 0, none⟩) 1 cp) (.slice none 0 0)) ?_ ?_ ?_ ?_ ?_ ?_ ?_ ?_); (focus rfl); (focus rfl); (focus rfl); (focus rfl); (focus rfl); (focus rfl); (focus exact H11.out); (focus (show 14 < 16; decide)); (focus rfl); (focus rfl); (focus kernel_rfl); intro V22 hV22 hTV22; have H11 := hide hV22; replace HT := hide (HT.out.trans hTV22); replace HA := hide (anBut HA.out hTV22 (by have := HLT.out; omega) (by have := HLT.out; omega)); replace H3 := hide (BoxAt.but H3.out hTV22 (by have := HLT.out; omega)); replace H4 := hide (BoxAt.but H4.out hTV22 (by have := HLT.out; omega)); replace HG2 := hide (BoxAt.but HG2.out hTV22 (by have := HLT.out; omega)); replace HS := hide (BoxAt.but HS.out hTV22 (by have := HLT.out; omega)); replace H5 := hide (BoxAt.but H5.out hTV22 (by have := HLT.out; omega));  replace HGP := hide (BoxAt.but HGP.out hTV22 (by have := HgP.out; omega)); clear hV22 hTV22))
  clear q1
  have q2 : V22.cell? ⟨x, 2, none⟩ = some (.map (some mr)) := HA.out.box.1 2 _ rfl
  go_upto_region 24 with (first
    | (go_at_call 108; refine (keys_int_nil mr _ _ HA.out.rls).mono ?_; rintro e w22 ⟨rfl, hb1⟩; replace HT := hide (HT.out.afterBelow hb1); replace HGP := hide (HGP.out.below hb1); replace HA := hide (HA.out.below hb1); replace H3 := hide (H3.out.below hb1); replace H4 := hide (H4.out.below hb1); replace HG2 := hide (HG2.out.below hb1); replace HS := hide (HS.out.below hb1); replace H5 := hide (H5.out.below hb1); replace H11 := hide (H11.out.below hb1);  clear hb1)
    | ((with_reducible refine wpList_store_cell ?_ ?_ ?_ 42 (.tmp 160) (.tmp 159) ?_ g11 15 (pfL id (.slice none 0 0) smZ (.slice none 0 0) (.slice (some ⟨gp, 0, none⟩) 1 cp) (.slice none 0 0)) (.slice none 0 0) (pfL id (.slice none 0 0) smZ (.slice none 0 0) (.slice (some ⟨gp, 0, none⟩) 1 cp) (.slice none 0 0)) ?_ ?_ ?_ ?_ ?_ ?_ ?_ ?_); (focus rfl); (focus rfl); (focus rfl); (focus rfl); (focus rfl); (focus rfl); (focus exact H11.out); (focus (show 15 < 16; decide)); (focus rfl); (focus rfl); (focus kernel_rfl); intro V23 hV23 hTV23; have H11 := hide hV23; replace HT := hide (HT.out.trans hTV23); replace HA := hide (anBut HA.out hTV23 (by have := HLT.out; omega) (by have := HLT.out; omega)); replace H3 := hide (BoxAt.but H3.out hTV23 (by have := HLT.out; omega)); replace H4 := hide (BoxAt.but H4.out hTV23 (by have := HLT.out; omega)); replace HG2 := hide (BoxAt.but HG2.out hTV23 (by have := HLT.out; omega)); replace HS := hide (BoxAt.but HS.out hTV23 (by have := HLT.out; omega)); replace H5 := hide (BoxAt.but H5.out hTV23 (by have := HLT.out; omega));  replace HGP := hide (BoxAt.but HGP.out hTV23 (by have := HgP.out; omega)); clear hV23 hTV23))
  clear q2
  replace HW := hide (HW.out.thenNew HT.out (fun i e => .inr (by have := Hx.out; have := Hg11.out; omega)))
  replace Hx : Hid (w.heap.size + 2 ≤ V23.heap.size) := hide (by have := Hx.out; have := HT.out.size; omega)
  have Hw11 : Hid (w.heap.size + 2 ≤ g11) := hide (by have := HLT.out; omega)
  have Hg5' : Hid (g5 ≠ g11) := hide (by have := HLT.out; omega)
  clear HT
  have q14 : V23.cell? ⟨g11, 14, none⟩ = some (.slice (some ⟨gp, 0, none⟩) 1 cp) := H11.out.1 14 _ rfl
  go_upto_block 4 with (fail)
  go_cut [] (fun wx => ∃ gs cq, BoxAt wx g5 (smL id lk lo (.slice (some ⟨gs, 0, none⟩) 1 cq) ss.length) ∧ BoxAt wx gs [.int .i64 pa1, .int .i64 pb1, .int .i64 0] ∧ But (fun k => k = g5) V23 wx)
  case first =>
    have Hg5s : Hid (g5 < V23.heap.size) := hide H5.out.2.2
    go_wp2_with fail
    refine wp_loop_rounds 2 ?_
    rw [rounds_succ]
    go_wp2_with (first
      | ((with_reducible refine wpList_load_mid ?_ 29 (.tmp 166) ?_ (gp) (0) ?_ [.int .i64 pa1, .int .i64 pb1, .int .i64 ps1] _ ?_ Tryz.underlying29 ?_ ?_ ?_); (focus rfl); (focus rfl); (focus rfl); (focus exact HGP.out.whole); (focus rfl); (focus kernel_rfl))
      | ((with_reducible refine wpList_store_new ?_ ?_ 29 (.tmp 13) (.tmp 167) ?_ [.int .i64 pa1, .int .i64 pb1, .int .i64 ps1] ?_ ?_ ?_ ?_ ?_ ?_); (focus rfl); (focus rfl); (focus rfl); (focus rfl); (focus rfl); (focus rfl); (focus kernel_rfl); (focus exact pair_one); intro V24 hV24 hbV24; have HV24 := hide hV24; have HbV24 := hide hbV24; clear hV24 hbV24; replace H5 := hide (H5.out.below HbV24.out); have HT : Hid (But (fun k => k = g5) V23 V24) := hide (Below.but HbV24.out _))
      | ((with_reducible refine wpList_store_cell ?_ ?_ ?_ 3 (.tmp 168) (.const (.int .i64 0)) ?_ V23.heap.size 2 [.int .i64 pa1, .int .i64 pb1, .int .i64 ps1] (.int .i64 0) [.int .i64 pa1, .int .i64 pb1, .int .i64 0] ?_ ?_ ?_ ?_ ?_ ?_ ?_ ?_); (focus rfl); (focus rfl); (focus rfl); (focus rfl); (focus rfl); (focus rfl); (focus exact HV24.out); (focus (show 2 < 3; decide)); (focus rfl); (focus rfl); (focus kernel_rfl); intro V25 hV25 hTV25; have H13 := hide hV25; replace H5 := hide (H5.out.but hTV25 (by have := Hg5s.out; omega)); replace HT := hide (HT.out.thenNew hTV25 (fun i e => .inr (by omega))); have q9 : V25.cell? ⟨g5, 9, none⟩ = some (.slice none 0 0) := H5.out.1 9 _ rfl; clear hV25 hTV25)
      | ((with_reducible refine wpList_load_mid ?_ 29 (.tmp 13) ?_ (V23.heap.size) (0) ?_ [.int .i64 pa1, .int .i64 pb1, .int .i64 0] _ ?_ Tryz.underlying29 ?_ ?_ ?_); (focus rfl); (focus rfl); (focus rfl); (focus exact H13.out.whole); (focus rfl); (focus kernel_rfl))
      | ((with_reducible refine wpList_buildSlice_one ?_ ?_ 24 29 3 24 elemPair (.tmp 171) ?_ (.agg ([.int .i64 pa1, .int .i64 pb1, .int .i64 0]).toArray) ([.int .i64 pa1, .int .i64 pb1, .int .i64 0]) ?_ ?_ ?_ ?_ ?_); (focus rfl); (focus rfl); (focus rfl); (focus rfl); (focus rfl); (focus rfl); (focus decide); intro gb V26 hV26 hgV26 hbV26; have HGB := hide hV26; replace H5 := hide (H5.out.below hbV26); replace HT := hide (HT.out.afterBelow hbV26); clear hV26 hgV26 hbV26 q9)
      | ((with_reducible refine wpList_append_to ?_ ?_ (.tmp 170) (.tmp 172) 24 29 3 24 elemPair ?_ 0 (.slice none 0 0) 0 [] ?_ (own_nil _ _ _ _) gb 1 1 [.int .i64 pa1, .int .i64 pb1, .int .i64 0] ?_ ?_ ?_ ?_ ?_ ?_ ?_ ?_); (focus rfl); (focus rfl); (focus rfl); (focus rfl); (focus rfl); (focus exact HGB.out); (focus rfl); (focus exact pair_one); (focus omega); (focus omega); (focus omega); intro gs cq V27 hap; have Hgs5 : Hid (g5 < gs) := hide (by have := H5.out.2.2; have := hap.first.2; omega); have HGS := hide hap.box; replace H5 := hide (H5.out.below hap.first.1); replace HT := hide (HT.out.afterBelow hap.first.1))
      | ((with_reducible refine wpList_store_cell ?_ ?_ ?_ 24 (.tmp 174) (.tmp 173) ?_ g5 9 (smL id lk lo (.slice none 0 0) ss.length) (.slice (some ⟨gs, 0, none⟩) 1 cq) (smL id lk lo (.slice (some ⟨gs, 0, none⟩) 1 cq) ss.length) ?_ ?_ ?_ ?_ ?_ ?_ ?_ ?_); (focus rfl); (focus rfl); (focus rfl); (focus rfl); (focus rfl); (focus rfl); (focus exact H5.out); (focus (show 9 < 11; decide)); (focus rfl); (focus rfl); (focus kernel_rfl); intro V28 hV28 hTV28; have H5 := hide hV28; replace HGS := hide (HGS.out.but hTV28 (by have := Hgs5.out; omega)); replace HT := hide (HT.out.trans hTV28); clear hV28 hTV28))
    rw [rounds_succ]
    go_wp2_with fail
    go_meet
    exact ⟨_, _, H5.out, HGS.out, HT.out⟩
  case rest =>
  obtain ⟨gs, cq, h5, hgs, hT⟩ := hcut
  obtain ⟨X5, hX5⟩ : ∃ V : World, V = wc := ⟨_, rfl⟩
  rw [← hX5] at h5 hgs hT ⊢
  have HGS := hide hgs
  replace HA := hide (anBut HA.out hT Hd5.out.1 Hm5.out)
  replace H3 := hide (H3.out.but hT (by have := Hg5.out; omega))
  replace H4 := hide (H4.out.but hT (by have := Hg5.out; omega))
  replace HG2 := hide (HG2.out.but hT Hd5.out.2.2)
  replace HS := hide (BoxAt.but HS.out hT Hs5.out)
  replace H11 := hide (H11.out.but hT (fun e => Hg5'.out e.symm))
  replace HGP := hide (HGP.out.but hT (by have := HgP.out; have := HLT.out; omega))
  replace H5 := hide h5
  replace HW := hide (HW.out.thenNew hT (fun i e => .inr (by have := Hg5.out; omega)))
  replace Hx : Hid (w.heap.size + 2 ≤ X5.heap.size) := hide (by have := Hx.out; have := hT.size; omega)
  clear hX5 h5 hgs hT q14
  have q9 : X5.cell? ⟨g5, 9, none⟩ = some (.slice (some ⟨gs, 0, none⟩) 1 cq) := H5.out.1 9 _ rfl
  have HNE : Hid ((x ≠ g5) ∧ (mf ≠ g5 ∧ mp ≠ g5 ∧ mr ≠ g5 ∧ mx ≠ g5) ∧ (g2 ≠ g5) ∧ (sb ≠ g5) ∧ (w.heap.size ≠ g5) ∧ (w.heap.size + 1 ≠ g5) ∧ (g11 ≠ g5) ∧ (gp ≠ g5) ∧ (g5 ≠ g11) ∧ (x ≠ g11) ∧ (mf ≠ g11 ∧ mp ≠ g11 ∧ mr ≠ g11 ∧ mx ≠ g11) ∧ (g2 ≠ g11) ∧ (sb ≠ g11) ∧ (w.heap.size ≠ g11) ∧ (w.heap.size + 1 ≠ g11) ∧ (gp ≠ g11)) := hide (by have h1 := HLT.out; have h2 := Hd5.out; have h3 := Hm5.out; have h4 := Hs5.out; have h5 := Hg5.out; have h6 := Hg11.out; have h7 := HgP.out; have h8 := HA.out.lt; refine ⟨?_, ⟨?_, ?_, ?_, ?_⟩, ?_, ?_, ?_, ?_, ?_, ?_, ?_, ?_, ⟨?_, ?_, ?_, ?_⟩, ?_, ?_, ?_, ?_, ?_⟩ <;> clear HA H5 HGS HGP <;> omega)
  go_upto_region 31 with (first
    | (go_at_call 18; refine (compact_pair_small _ _ _ (by omega) _).mono ?_; rintro e w40 ⟨rfl, hwx⟩; subst hwx)
    | ((with_reducible refine wpList_store_cell ?_ ?_ ?_ 24 (.tmp 179) (.tmp 178) ?_ g5 9 (smL id lk lo (.slice (some ⟨gs, 0, none⟩) 1 cq) ss.length) (.slice (some ⟨gs, 0, none⟩) 1 cq) (smL id lk lo (.slice (some ⟨gs, 0, none⟩) 1 cq) ss.length) ?_ ?_ ?_ ?_ ?_ ?_ ?_ ?_); (focus rfl); (focus rfl); (focus rfl); (focus rfl); (focus rfl); (focus rfl); (focus exact H5.out); (focus (show 9 < 11; decide)); (focus rfl); (focus rfl); (focus kernel_rfl); intro V40 hV40 hTV40; have H5 := hide hV40; replace HW := hide (HW.out.thenNew hTV40 (fun i e => .inr (by have := Hg5.out; omega))); replace Hx : Hid (w.heap.size + 2 ≤ V40.heap.size) := hide (by have := Hx.out; have := hTV40.size; omega); replace HA := hide (anBut HA.out hTV40 HNE.out.1 HNE.out.2.1); replace H3 := hide (BoxAt.but H3.out hTV40 HNE.out.2.2.2.2.1); replace H4 := hide (BoxAt.but H4.out hTV40 HNE.out.2.2.2.2.2.1); replace HG2 := hide (BoxAt.but HG2.out hTV40 HNE.out.2.2.1); replace HS := hide (BoxAt.but HS.out hTV40 HNE.out.2.2.2.1); replace H11 := hide (BoxAt.but H11.out hTV40 HNE.out.2.2.2.2.2.2.1); replace HGP := hide (BoxAt.but HGP.out hTV40 HNE.out.2.2.2.2.2.2.2.1);  clear hV40 hTV40))
  go_upto_region 32 with (first
    | ((with_reducible refine wpList_load_mid ?_ 59 (.tmp 5) ?_ (g5) (0) ?_ (smL id lk lo (.slice (some ⟨gs, 0, none⟩) 1 cq) ss.length) _ ?_ Tryz.underlying59 ?_ ?_ ?_); (focus rfl); (focus rfl); (focus rfl); (focus exact H5.out.whole); (focus rfl); (focus kernel_rfl))
    | ((with_reducible refine wpList_store_in ?_ ?_ 59 (.tmp 181) (.tmp 180) ?_ (g11) 2 (pfL id (.slice none 0 0) smZ (.slice none 0 0) (.slice (some ⟨gp, 0, none⟩) 1 cp) (.slice none 0 0)) (smL id lk lo (.slice (some ⟨gs, 0, none⟩) 1 cq) ss.length) (pfL id (.slice none 0 0) (smL id lk lo (.slice (some ⟨gs, 0, none⟩) 1 cq) ss.length) (.slice none 0 0) (.slice (some ⟨gp, 0, none⟩) 1 cp) (.slice none 0 0)) ?_ ?_ ?_ ?_ ?_ ?_ ?_ ?_); (focus rfl); (focus rfl); (focus rfl); (focus rfl); (focus rfl); (focus exact H11.out); (focus (show 2 + 11 ≤ 16; decide)); (focus rfl); (focus kernel_rfl); (focus exact smL_one); intro V41 hV41 hTV41; have HV41 := hide hV41; have HTV41 := hide hTV41; clear hV41 hTV41; replace H11 := HV41; replace HW := hide (HW.out.thenNew HTV41.out (fun i e => .inr (by have := Hw11.out; omega))); replace Hx : Hid (w.heap.size + 2 ≤ V41.heap.size) := hide (by have := Hx.out; have := HTV41.out.size; omega); replace HA := hide (anBut HA.out HTV41.out HNE.out.2.2.2.2.2.2.2.2.2.1 HNE.out.2.2.2.2.2.2.2.2.2.2.1); replace H3 := hide (BoxAt.but H3.out HTV41.out HNE.out.2.2.2.2.2.2.2.2.2.2.2.2.2.1); replace H4 := hide (BoxAt.but H4.out HTV41.out HNE.out.2.2.2.2.2.2.2.2.2.2.2.2.2.2.1); replace HS := hide (BoxAt.but HS.out HTV41.out HNE.out.2.2.2.2.2.2.2.2.2.2.2.2.1); replace HGP := hide (BoxAt.but HGP.out HTV41.out HNE.out.2.2.2.2.2.2.2.2.2.2.2.2.2.2.2); clear HTV41))
  go_upto_region 33 with (first
    | ((with_reducible refine wpList_load_mid ?_ 83 (.tmp 184) ?_ (x) (19) ?_ (dfL id ds (.string nm) (.slice (some ⟨sb, 0, none⟩) ss.length ss.length)) _ ?_ Tryz.underlying83 ?_ ?_ ?_); (focus rfl); (focus rfl); (focus rfl); (focus exact HA.out.box.sub 19 _ rfl); (focus rfl); (focus kernel_rfl))
    | (go_at_call 110; refine (sites_any sb ss Hlen.out id ds nm _ HS.out).mono ?_; rintro e V42 ⟨vs, rfl, hown, hb42⟩))
  replace HA := hide (HA.out.below hb42)
  replace H3 := hide (H3.out.below hb42)
  replace H4 := hide (H4.out.below hb42)
  have h11l := H11.out.2.2
  replace H11 := hide (H11.out.below hb42)
  replace HGP := hide (HGP.out.below hb42)
  replace HW := hide (HW.out.afterBelow hb42)
  replace Hx : Hid (w.heap.size + 2 ≤ V42.heap.size) := hide (by have := Hx.out; have := hb42.size; omega)
  rw [show (List.map (fun x => x.1) ss ++ [ds]).length = ss.length + 1 by simp] at hown
  obtain ⟨gq, cq', rfl, hgq, hbq, hcq⟩ := own_box hown (by omega)
  have HQ := hide hbq
  have HgQ : Hid (g11 < gq) := hide (by clear HA; omega)
  clear hown hgq hbq hb42 h11l
  have hk100 := Hlen.out
  go_upto_block 6 with (fail)
  go_wp2_with fail
  go_loopw [193] (fun i wr => PfRel ss.length id (smL id lk lo (.slice (some ⟨gs, 0, none⟩) 1 cq) ss.length) (.slice (some ⟨gp, 0, none⟩) 1 cp) g11 V42 i wr) (fun i _ => ss.length - (intOf i).toNat)
  case atStart => exact ⟨0, none, 0, [], by omega, rfl, H11.out, own_nil _ _ _ _, But.refl _ _⟩
  case round =>
  obtain ⟨j, A, cf, xs, hj, rfl, h11, hown, hB⟩ := hrel
  by_cases hlt : j < ss.length
  · have hq : wr.cell? ⟨gq, j, none⟩ = some (.int .i64 ss[j].1) := (BoxAt.but HQ.out hB (by have := HgQ.out; omega)).1 j _ (by simp [siV, List.getElem?_append, hlt])
    obtain ⟨A3, c3, u3, hh⟩ := facts_hit Hlx.out Hnd.out hlt
    have Hhit := hide hh
    have HL42 := hide HA.out.lt
    have H11L := hide H11.out.2.2
    replace HA := hide (anBut HA.out hB HNE.out.2.2.2.2.2.2.2.2.2.1 HNE.out.2.2.2.2.2.2.2.2.2.2.1)
    replace H11 := hide h11
    have HO := hide hown
    have HB36 := hide hB
    clear hh h11 hown hB
    go_upto_region 36 with (fail)
    refine wp_region_heldZ (S := fun w' => BoxAt w' x (anL mf mp mr lk (.slice (some ⟨g1, 0, none⟩) 1 d1) (.slice (some ⟨g2, 0, none⟩) 1 d2) mx b lv id ds (.string nm) (.slice (some ⟨sb, 0, none⟩) ss.length ss.length) (.slice As ns cs)) ∧ BoxAt w' g11 (pfL id (.slice A j cf) (smL id lk lo (.slice (some ⟨gs, 0, none⟩) 1 cq) ss.length) (.slice none 0 0) (.slice (some ⟨gp, 0, none⟩) 1 cp) (.slice none 0 0)) ∧ MapAt w' mx lx) [12] (by kernel_rfl) ?_ (fun hHeld => ?_)
    · exact ⟨HA.out.box.below (Below.refl _ _).drew, H11.out.below (Below.refl _ _).drew, HA.out.fct.drew⟩
    generalize hw0 : World.drew wr = w0 at hHeld ⊢
    have HB0 : Hid (Below wr.heap.size wr w0) := hide (by rw [← hw0]; exact (Below.refl _ wr).drew)
    replace HA := hide (HA.out.below HB0.out)
    replace H11 := hide (H11.out.below HB0.out)
    replace HO := hide (own_below HO.out HB0.out)
    replace HB36 := hide (HB36.out.afterBelow HB0.out)
    clear hw0
    refine takeZp 0 (some 197) (v := ?_) rfl rfl (by kernel_rfl) (by kernel_rfl) (by kernel_rfl) (fun _ _ _ h => h) (Or.inl ⟨by rfl, ?_⟩) (by assumption) (by kernel_rfl) ?_
    rotate_left 1
    · intro w2 hSw
      go_simp
      try with_reducible rfl
    try simp only [Act.put, List.setIfInBounds_toArray, List.set_cons_zero, List.set_cons_succ]
    refine takeZ 1 (some 198) (v := ?_) rfl rfl (by kernel_rfl) (by kernel_rfl) (by kernel_rfl) (fun _ _ _ h => h) (Or.inl ⟨by rfl, ?_⟩) (by assumption) (by kernel_rfl) ?_
    rotate_left 1
    · intro w2 hSw
      have hl := hSw.2.1.1 1 _ rfl
      go_simp
      try with_reducible rfl
    try simp only [Act.put, List.setIfInBounds_toArray, List.set_cons_zero, List.set_cons_succ]
    refine takeZp 2 (some 199) (v := ?_) rfl rfl (by kernel_rfl) (by kernel_rfl) (by kernel_rfl) (fun _ _ _ h => h) (Or.inl ⟨by rfl, ?_⟩) (by assumption) (by kernel_rfl) ?_
    rotate_left 1
    · intro w2 hSw
      go_simp
      try with_reducible rfl
    try simp only [Act.put, List.setIfInBounds_toArray, List.set_cons_zero, List.set_cons_succ]
    refine takeZp 3 (some 200) (v := ?_) rfl rfl (by kernel_rfl) (by kernel_rfl) (by kernel_rfl) (fun _ _ _ h => h) (Or.inl ⟨by rfl, ?_⟩) (by assumption) (by kernel_rfl) ?_
    rotate_left 1
    · intro w2 hSw
      go_simp
      try with_reducible rfl
    try simp only [Act.put, List.setIfInBounds_toArray, List.set_cons_zero, List.set_cons_succ]
    refine takeZp 4 (some 201) (v := ?_) rfl rfl (by kernel_rfl) (by kernel_rfl) (by kernel_rfl) (fun _ _ _ h => h) (Or.inl ⟨by rfl, ?_⟩) (by assumption) (by kernel_rfl) ?_
    rotate_left 1
    · intro w2 hSw
      go_simp
      try with_reducible rfl
    try simp only [Act.put, List.setIfInBounds_toArray, List.set_cons_zero, List.set_cons_succ]
    refine takeZp 5 (some 202) (v := ?_) rfl rfl (by kernel_rfl) (by kernel_rfl) (by kernel_rfl) (fun _ _ _ h => h) (Or.inl ⟨by rfl, ?_⟩) (by assumption) (by kernel_rfl) ?_
    rotate_left 1
    · intro w2 hSw
      go_simp
      try with_reducible rfl
    try simp only [Act.put, List.setIfInBounds_toArray, List.set_cons_zero, List.set_cons_succ]
    refine takeZ 6 (some 203) (v := ?_) rfl rfl (by kernel_rfl) (by kernel_rfl) (by kernel_rfl) (fun _ _ _ h => h) (Or.inl ⟨by rfl, ?_⟩) (by assumption) (by kernel_rfl) ?_
    rotate_left 1
    · intro w2 hSw
      have hl := hSw.1.1 6 _ rfl
      go_simp
      try with_reducible rfl
    try simp only [Act.put, List.setIfInBounds_toArray, List.set_cons_zero, List.set_cons_succ]
    refine takeZp 7 (some 204) (v := ?_) rfl rfl (by kernel_rfl) (by kernel_rfl) (by kernel_rfl) (fun _ _ _ h => h) (Or.inl ⟨by rfl, ?_⟩) (by assumption) (by kernel_rfl) ?_
    rotate_left 1
    · intro w2 hSw
      go_simp
      try with_reducible rfl
    try simp only [Act.put, List.setIfInBounds_toArray, List.set_cons_zero, List.set_cons_succ]
    refine wpAnyZ_ready (rs := [8]) (by kernel_rfl) (by simp) ?_
    refine AllReadyZ.cons rfl (by kernel_rfl) (fun K hK => ?_) ?_
    · refine step_lookup_hit (some 205) rfl rfl (.tmp 203) (.tmp 204) false rfl mx _ _ j lx rfl rfl Tryz.underlying155 HA.out.fct (fun w => check_int_any _ _ w) Hhit.out ?_
      have HB1 := HB0
      refine hK.out _ _ ?_ (fun hHeld => ?_)
      · exact ⟨HA.out.box, H11.out, HA.out.fct⟩
      clear hK K
      try simp only [Act.put, List.setIfInBounds_toArray, List.set_cons_zero, List.set_cons_succ]
      refine wpAnyZ_ready (rs := [9]) (by kernel_rfl) (by simp) ?_
      refine AllReadyZ.cons rfl (by kernel_rfl) (fun K hK => ?_) ?_
      · refine step_buildSlice_one (some 206) rfl rfl 55 164 8 128 elemFact (.tmp 205) rfl (.agg (fcL (.slice A3 0 c3) (.slice A2 0 c2) u3 u3 pa).toArray) (fcL (.slice A3 0 c3) (.slice A2 0 c2) u3 u3 pa) rfl rfl rfl (by decide) (fun gb w2 hgbx hgb hbn => ?_)
        replace HA := hide (HA.out.below hbn)
        replace H11 := hide (H11.out.below hbn)
        replace HO := hide (own_below HO.out hbn)
        have HGB := hide hgbx
        have HVs : Hid (V42.heap.size ≤ w2.heap.size) := hide (by have := HB36.out.size; have := hbn.size; omega)
        replace HB36 := hide (HB36.out.afterBelow hbn)
        have HB2 := trivial
        clear hgbx hgb hbn
        refine hK.out _ _ ?_ (fun hHeld => ?_)
        · exact ⟨HA.out.box, H11.out, HA.out.fct⟩
        clear hK K
        try simp only [Act.put, List.setIfInBounds_toArray, List.set_cons_zero, List.set_cons_succ]
        refine wpAnyZ_ready (rs := [10]) (by kernel_rfl) (by simp) ?_
        refine AllReadyZ.cons rfl (by kernel_rfl) (fun K hK => ?_) ?_
        · refine step_append_to (some 207) rfl rfl (.tmp 198) (.tmp 206) 55 164 8 128 elemFact rfl V42.heap.size (.slice A j cf) j xs rfl HO.out gb 1 1 (fcL (.slice A3 0 c3) (.slice A2 0 c2) u3 u3 pa) rfl HGB.out rfl fcL_one (by omega) (by omega) HVs.out (fun g7 cap7 w3 hap => ?_)
          have hbn : Below V42.heap.size w2 w3 := hap.but.below HVs.out (fun k hk => (HO.out.lt k hk).1)
          replace HA := hide (HA.out.apart (S := fun k => V42.heap.size ≤ k) ⟨hbn.os, hbn.tape, hbn.output, hbn.size, fun k _ hs => hbn.block k (by omega)⟩ V42.heap.size (fun k hk => hk) HL42.out)
          replace H11 := hide (BoxAt.but (S := fun k => V42.heap.size ≤ k) H11.out ⟨hbn.os, hbn.tape, hbn.output, hbn.size, fun k _ hs => hbn.block k (by omega)⟩ (by have := H11L.out; omega))
          replace HB36 := hide (HB36.out.thenNew (T := fun k => V42.heap.size ≤ k) ⟨hbn.os, hbn.tape, hbn.output, hbn.size, fun k _ hs => hbn.block k (by omega)⟩ (fun i h => .inr h))
          replace HO := hide hap.own
          replace HVs : Hid (V42.heap.size ≤ w3.heap.size) := hide (by have := HVs.out; have := hbn.size; omega)
          have HB3 := trivial
          clear hap hbn
          refine hK.out _ _ ?_ (fun hHeld => ?_)
          · exact ⟨HA.out.box, H11.out, HA.out.fct⟩
          clear hK K
          try simp only [Act.put, List.setIfInBounds_toArray, List.set_cons_zero, List.set_cons_succ]
          refine takeZp 11 (some 208) (v := ?_) rfl rfl (by kernel_rfl) (by kernel_rfl) (by kernel_rfl) (fun _ _ _ h => h) (Or.inl ⟨by rfl, ?_⟩) (by assumption) (by kernel_rfl) ?_
          rotate_left 1
          · intro w2 hSw
            go_simp
            try with_reducible rfl
          try simp only [Act.put, List.setIfInBounds_toArray, List.set_cons_zero, List.set_cons_succ]
          refine wpAnyZ_ready (rs := [12]) (by kernel_rfl) (by simp) ?_
          refine AllReadyZ.last rfl (by kernel_rfl) (fun K hK => ?_) ?_
          · refine step_store_cell rfl rfl 55 (.tmp 208) (.tmp 207) rfl g11 1 (pfL id (.slice A j cf) (smL id lk lo (.slice (some ⟨gs, 0, none⟩) 1 cq) ss.length) (.slice none 0 0) (.slice (some ⟨gp, 0, none⟩) 1 cp) (.slice none 0 0)) (.slice (some ⟨g7, 0, none⟩) (j + 1) cap7) (pfL id (.slice (some ⟨g7, 0, none⟩) (j + 1) cap7) (smL id lk lo (.slice (some ⟨gs, 0, none⟩) 1 cq) ss.length) (.slice none 0 0) (.slice (some ⟨gp, 0, none⟩) 1 cp) (.slice none 0 0)) rfl rfl H11.out (by show 1 < 16; decide) rfl rfl (by kernel_rfl) (fun w4 hV hT => ?_)
            replace HA := hide (anBut HA.out hT HNE.out.2.2.2.2.2.2.2.2.2.1 HNE.out.2.2.2.2.2.2.2.2.2.2.1)
            replace H11 := hide hV
            replace HO := hide (own_but HO.out hT (fun k hk e => by have := H11L.out; omega))
            replace HB36 := hide (HB36.out.trans hT)
            have HB4 := trivial
            clear hV hT
            refine hK.out _ _ ?_ (fun hHeld => ?_)
            · trivial
            clear hK K
            try simp only [Act.put, List.setIfInBounds_toArray, List.set_cons_zero, List.set_cons_succ]
            refine wpAnyH_done (by kernel_rfl) ?_ _
            go_wp2_with fail
            go_roundw
            case rel => exact ⟨j + 1, _, _, _, by omega, by go_num, H11.out, HO.out, HB36.out⟩
            case measure => simp [intOf]; omega
          exact AllReadyZ.nil
        exact AllReadyZ.nil
      exact AllReadyZ.nil
    exact AllReadyZ.nil
  · obtain rfl : j = ss.length := by omega
    replace H4 := hide (BoxAt.but H4.out hB HNE.out.2.2.2.2.2.2.2.2.2.2.2.2.2.2.1)
    replace HGP := hide (BoxAt.but HGP.out hB HNE.out.2.2.2.2.2.2.2.2.2.2.2.2.2.2.2)
    replace HW := hide (HW.out.thenNew hB (fun i e => .inr (by have := Hw11.out; omega)))
    replace Hx : Hid (w.heap.size + 2 ≤ wr.heap.size) := hide (by have := Hx.out; have := hB.size; omega)
    replace H11 := hide h11
    have Hgp1 : Hid (w.heap.size + 2 ≤ gp) := hide (by have := Hw11.out; have := HgP.out; omega)
    clear h11 hown hB
    go_wp2_with (first
      | (have h43 := HV43; clear h43; exact bodyPost_ret (res_box (cs := (pfL id (.slice A ss.length cf) (smL id lk lo (.slice (some ⟨gs, 0, none⟩) 1 cq) ss.length) (.slice none 0 0) (.slice (some ⟨gp, 0, none⟩) 1 cp) (.slice none 0 0))) rfl rfl HV43.out Tryz.underlying61 rfl (by kernel_rfl)) rfl ⟨A, _, cf, lo, gs, cq, gp, cp, rfl, BoxAt.but HGP.out HTV43.out (by have := Hgp1.out; omega), by have := Hgp1.out; omega, HW.out.thenNew HTV43.out (fun i e => .inr (by omega))⟩)
      | ((with_reducible refine wpList_load_mid ?_ 61 (.tmp 11) ?_ (g11) (0) ?_ (pfL id (.slice A ss.length cf) (smL id lk lo (.slice (some ⟨gs, 0, none⟩) 1 cq) ss.length) (.slice none 0 0) (.slice (some ⟨gp, 0, none⟩) 1 cp) (.slice none 0 0)) _ ?_ Tryz.underlying61 ?_ ?_ ?_); (focus rfl); (focus rfl); (focus rfl); (focus exact H11.out.whole); (focus rfl); (focus kernel_rfl))
      | ((with_reducible refine wpList_store_in ?_ ?_ 61 (.tmp 4) (.tmp 210) ?_ ((w.heap.size + 1)) 0 pfZ (pfL id (.slice A ss.length cf) (smL id lk lo (.slice (some ⟨gs, 0, none⟩) 1 cq) ss.length) (.slice none 0 0) (.slice (some ⟨gp, 0, none⟩) 1 cp) (.slice none 0 0)) (pfL id (.slice A ss.length cf) (smL id lk lo (.slice (some ⟨gs, 0, none⟩) 1 cq) ss.length) (.slice none 0 0) (.slice (some ⟨gp, 0, none⟩) 1 cp) (.slice none 0 0)) ?_ ?_ ?_ ?_ ?_ ?_ ?_ ?_); (focus rfl); (focus rfl); (focus rfl); (focus rfl); (focus rfl); (focus exact H4.out); (focus (show 0 + 16 ≤ 16; decide)); (focus rfl); (focus kernel_rfl); (focus exact pfL_one); intro V43 hV43 hTV43; have HV43 := hide hV43; have HTV43 := hide hTV43; clear hV43 hTV43))

end Go.Proofs.YthhfakkfdohcpaaGreat
