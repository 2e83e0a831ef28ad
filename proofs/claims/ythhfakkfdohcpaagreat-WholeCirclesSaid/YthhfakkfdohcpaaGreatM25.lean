/- Whether a pair lies on a circle. No condition. -/
import Derived.Test.YthhfakkfdohcpaaGreatM24
namespace Go.Proofs.YthhfakkfdohcpaaGreat
open Go.RowKit Go.ChangeMaps Go.MapKept
theorem boxes_mix (w : World) (p c d : List Value) (tp tc td : TypeId) (X : World) (h : X = (((w.alloc (.cells p.toArray tp)).alloc (.map #[] 0)).alloc (.cells c.toArray tc)).alloc (.cells d.toArray td)) :
    BoxAt X w.heap.size p ∧ MapAt X (w.heap.size + 1) [] ∧ BoxAt X (w.heap.size + 1 + 1) c ∧ BoxAt X (w.heap.size + 1 + 1 + 1) d ∧ X.heap.size = w.heap.size + 4 ∧ Below w.heap.size w X := by
  have s1 := World.size_alloc w (.cells p.toArray tp)
  have s2 := World.size_alloc (w.alloc (.cells p.toArray tp)) (.map #[] 0)
  have s3 := World.size_alloc ((w.alloc (.cells p.toArray tp)).alloc (.map #[] 0)) (.cells c.toArray tc)
  have al : ∀ (W : World) (o : Obj), Below W.heap.size W (W.alloc o) := fun W o => (Below.refl _ W).alloc (Nat.le_refl _) _
  have b1 := (((BoxAt.new w p tp).below (al _ (.map #[] 0))).below (al _ (.cells c.toArray tc))).below (al _ (.cells d.toArray td))
  have b2 := ((MapAt.new (w.alloc (.cells p.toArray tp))).below (al _ (.cells c.toArray tc))).below (al _ (.cells d.toArray td))
  have b3 := (BoxAt.new ((w.alloc (.cells p.toArray tp)).alloc (.map #[] 0)) c tc).below (al _ (.cells d.toArray td))
  have b4 := BoxAt.new (((w.alloc (.cells p.toArray tp)).alloc (.map #[] 0)).alloc (.cells c.toArray tc)) d td
  rw [s1] at b2 s2
  rw [s2] at b3 s3
  rw [s3] at b4
  rw [← h] at b1 b2 b3 b4
  exact ⟨b1, b2, b3, b4, by rw [h, World.size_alloc, s3], by rw [h]; exact ((((Below.refl _ w).alloc (Nat.le_refl _) _).alloc (by omega) _).alloc (by omega) _).alloc (by omega) _⟩
set_option maxRecDepth 100000 in
set_option maxHeartbeats 8000000 in
theorem circ_any (L : Gr) (gb g B : Nat) (a b s : Int) (w : World) (hg : BoxAt w gb [.map (some g)]) (hG : GraphAt w B g L) :
    Calls Tryz.prog 27 #[.agg (prV (a, b, s)).toArray, .pointer (some ⟨gb, 0, none⟩)] w fun e w' => ∃ r : Bool, e = .returned (.bool r) ∧ (r = true ↔ Way L b a) ∧ Below w.heap.size w w' := by
  have hk0 : ∀ W, (Instr.makeMap 92 none).run Tryz.prog W = .ok (.map (some W.heap.size)) (W.alloc (.map #[] 0)) := fun _ => by kernel_rfl
  go_enter Tryz.func27, Tryz.ntmps27
  simp only [prV]
  go_upto_region 3 with (fail)
  obtain ⟨X, hX⟩ : ∃ V, V = ((((w.alloc (.cells (prV (a, b, s)).toArray 29)).alloc (.map #[] 0)).alloc (.cells #[.map (some (w.heap.size + 1))] 92)).alloc (.cells #[.nilFunc] 93)) := ⟨_, rfl⟩
  obtain ⟨b1, b2, b3, b4, hz, hbX⟩ := boxes_mix w (prV (a, b, s)) [.map (some (w.heap.size + 1))] [.nilFunc] 29 92 93 X hX
  have hX' := hX
  simp only [prV] at hX'
  rw [← hX']
  clear hX hX'
  go_upto_region 4 with (first
    | ((with_reducible refine wpList_store_cell ?_ ?_ ?_ 93 (.tmp 5) (.tmp 7) ?_ (w.heap.size + 1 + 1 + 1) 0 [.nilFunc] (.func (.func 28) #[] #[.pointer (some ⟨w.heap.size, 0, none⟩), .pointer (some ⟨w.heap.size + 1 + 1, 0, none⟩), .pointer (some ⟨gb, 0, none⟩), .pointer (some ⟨w.heap.size + 1 + 1 + 1, 0, none⟩)]) [(.func (.func 28) #[] #[.pointer (some ⟨w.heap.size, 0, none⟩), .pointer (some ⟨w.heap.size + 1 + 1, 0, none⟩), .pointer (some ⟨gb, 0, none⟩), .pointer (some ⟨w.heap.size + 1 + 1 + 1, 0, none⟩)])] ?_ ?_ ?_ ?_ ?_ ?_ ?_ ?_); (focus rfl); (focus rfl); (focus rfl); (focus rfl); (focus rfl); (focus rfl); (focus exact b4); (focus (show 0 < 1; decide)); (focus rfl); (focus rfl); (focus kernel_rfl); intro Y hY hT))
  have henv : Env Y w.heap.size (w.heap.size + 1 + 1) gb (w.heap.size + 1 + 1 + 1) (w.heap.size + 1) g B a b s L [] :=
    { bx := b1.but hT (by omega), bs := b3.but hT (by omega), bg := (hg.below hbX).but hT (by have := hg.2.2; omega), bf := hY, gr := (hG.below hbX).but hT (by have := hG.map.lt; omega) (fun e he => by have := MapAt.lt (hG.set e he); omega), se := MapAt.but b2 hT (by omega), n1 := by omega, n2 := by omega, n3 := by have := hg.2.2; omega, n4 := by omega, n5 := by have := hG.map.lt; omega, n6 := fun e he => by have := MapAt.lt (hG.set e he); omega }
  have HE := hide henv
  have HB : Hid (Below w.heap.size w Y) := hide (hbX.trans (hT.below (by omega) (fun k hk => by omega)))
  have qf : Y.cell? ⟨w.heap.size + 1 + 1 + 1, 0, none⟩ = some (.func (.func 28) #[] #[.pointer (some ⟨w.heap.size, 0, none⟩), .pointer (some ⟨w.heap.size + 1 + 1, 0, none⟩), .pointer (some ⟨gb, 0, none⟩), .pointer (some ⟨w.heap.size + 1 + 1 + 1, 0, none⟩)]) := hY.1 0 _ rfl
  have qb : Y.cell? ⟨w.heap.size, 1, none⟩ = some (.int .i64 b) := henv.bx.1 1 _ rfl
  clear b1 b2 b3 b4 hz hbX henv hY hT hg hG
  go_wp2_with (first
    | (go_at_call 28; refine (reach_any L (b :: L.flatMap (·.2.2)) (fun x y hxy => by obtain ⟨m, ks, he, hy⟩ := hxy; exact List.mem_cons_of_mem _ (List.mem_flatMap.2 ⟨_, he, hy⟩)) w.heap.size (w.heap.size + 1 + 1) gb (w.heap.size + 1 + 1 + 1) (w.heap.size + 1) g B a b s _ [] b _ (Nat.le_refl _) (by simp) (by simp) HE.out).mono ?_; rintro e w2 ⟨hres, hbut⟩; have HB2 := hide (HB.out.trans (hbut.below HB.out.size (fun k hk => by omega))); clear hbut qf qb; rcases hres with ⟨rfl, hway⟩ | ⟨rfl, S2, hc2, hy2, ha2, hs2⟩))
  · go_ret
    exact ⟨true, rfl, ⟨fun _ => hway, fun _ => rfl⟩, HB2.out⟩
  · go_ret
    exact ⟨false, rfl, ⟨fun h => by simp at h, fun h => absurd h (Clo.none hc2 hy2 ha2)⟩, HB2.out⟩
end Go.Proofs.YthhfakkfdohcpaaGreat
/- The question whether a pair lies on a circle, as a function value. No condition. -/
namespace Go.Proofs.YthhfakkfdohcpaaGreat
open Go.RowKit Go.ChangeMaps Go.MapKept
set_option maxHeartbeats 1000000 in
theorem circled_fn (g : Nat) (w : World) : Calls Tryz.prog 12 #[.map (some g)] w fun e w' => e = .returned (.func (.func 27) #[] #[.pointer (some ⟨w.heap.size, 0, none⟩)]) ∧ BoxAt w' w.heap.size [.map (some g)] ∧ Below w.heap.size w w' := by
  go_enter Tryz.func12, Tryz.ntmps12
  go_upto_region 1 with (fail)
  have hb := BoxAt.new w [.map (some g)] 69
  have hB : Below w.heap.size w (w.alloc (.cells [Value.map (some g)].toArray 69)) := (Below.refl _ w).alloc (Nat.le_refl _) _
  go_wp2_with fail
  go_ret
  exact ⟨rfl, hb, hB⟩
set_option maxRecDepth 100000 in
set_option maxHeartbeats 2000000 in
/-- What DeleteFunc is asked: whether a pair lies on no circle. -/
theorem cdel_any (L : Gr) (fb gb g B : Nat) (a b s : Int) (w : World) (hf : BoxAt w fb [.func (.func 27) #[] #[.pointer (some ⟨gb, 0, none⟩)]]) (hg : BoxAt w gb [.map (some g)]) (hG : GraphAt w B g L) :
    Calls Tryz.prog 15 #[.agg (prV (a, b, s)).toArray, .pointer (some ⟨fb, 0, none⟩)] w fun e w' => ∃ r : Bool, e = .returned (.bool (!r)) ∧ (r = true ↔ Way L b a) ∧ Below w.heap.size w w' := by
  have HG := hide hg; clear hg
  have HR := hide hG; clear hG
  have HF := hide hf; clear hf
  go_enter Tryz.func15, Tryz.ntmps15
  simp only [prV]
  go_upto_region 1 with (fail)
  obtain ⟨W, hW⟩ : ∃ V, V = w.alloc (.cells (prV (a, b, s)).toArray 29) := ⟨_, rfl⟩
  have hb2 := BoxAt.new w (prV (a, b, s)) 29
  have hbW : Below w.heap.size w (w.alloc (.cells (prV (a, b, s)).toArray 29)) := (Below.refl _ w).alloc (Nat.le_refl _) _
  rw [← hW] at hb2 hbW
  simp only [prV] at hW
  rw [← hW]
  clear hW
  have H2 := hide hb2
  have HbW := hide hbW
  have q1 : W.cell? ⟨fb, 0, none⟩ = some (.func (.func 27) #[] #[.pointer (some ⟨gb, 0, none⟩)]) := (HF.out.below hbW).1 0 _ rfl
  replace HG := hide (HG.out.below hbW)
  replace HR := hide (HR.out.below hbW)
  clear hb2 hbW
  go_wp2_with (first
    | ((with_reducible refine wpList_load_mid ?_ 29 (.tmp 2) ?_ (w.heap.size) (0) ?_ (prV (a, b, s)) _ ?_ Tryz.underlying29 ?_ ?_ ?_); (focus rfl); (focus rfl); (focus rfl); (focus exact H2.out.whole); (focus rfl); (focus kernel_rfl))
    | (go_at_call 27; refine (circ_any L gb g B a b s _ HG.out HR.out).mono ?_; rintro e w1 ⟨r, rfl, hr, hb1⟩; have Hr := hide hr; have Hb1 := hide hb1; clear hr hb1))
  go_ret
  exact ⟨r, rfl, Hr.out, HbW.out.trans (Hb1.out.mono HbW.out.size)⟩
end Go.Proofs.YthhfakkfdohcpaaGreat
/- cmp.Or of three, and IndexFunc at pairs. No condition. -/
namespace Go.Proofs.YthhfakkfdohcpaaGreat
open Go.RowKit Go.ChangeMaps Go.MapKept
def or3 (x y z : Int) : Int := if x ≠ 0 then x else if y ≠ 0 then y else z
set_option maxRecDepth 100000 in
set_option maxHeartbeats 2000000 in
theorem or_three (x y z : Int) (g c : Nat) (w : World) (h : BoxAt w g [.int .i64 x, .int .i64 y, .int .i64 z]) : Calls Tryz.prog 32 #[.slice (some ⟨g, 0, none⟩) 3 c] w fun e w' => e = .returned (.int .i64 (or3 x y z)) ∧ w = w' := by
  have q0 : w.cell? ⟨g, 0, none⟩ = some (.int .i64 x) := h.1 0 _ rfl
  have q1 : w.cell? ⟨g, 1, none⟩ = some (.int .i64 y) := h.1 1 _ rfl
  have q2 : w.cell? ⟨g, 2, none⟩ = some (.int .i64 z) := h.1 2 _ rfl
  clear h
  go_enter Tryz.func32, Tryz.ntmps32
  go_wp2_with fail
  refine wp_loop_rounds 4 ?_
  rw [rounds_succ]
  by_cases hx : x = 0
  · subst hx
    go_wp2_with fail
    rw [rounds_succ]
    by_cases hy : y = 0
    · subst hy
      go_wp2_with fail
      rw [rounds_succ]
      by_cases hz : z = 0
      · subst hz
        go_wp2_with fail
        rw [rounds_succ]
        go_wp2_with fail
        go_ret
        exact ⟨rfl, rfl⟩
      · go_wp2_with fail
        go_ret
        exact ⟨by simp [or3], rfl⟩
    · go_wp2_with fail
      go_ret
      exact ⟨by simp [or3, hy], rfl⟩
  · go_wp2_with fail
    go_ret
    exact ⟨by simp [or3, hx], rfl⟩
set_option maxRecDepth 100000 in
set_option maxHeartbeats 4000000 in
theorem ixp (ps : List (Int × Int × Int)) (p : Int × Int × Int → Bool) (pb fb c : Nat) (w : World) (hn : ps.length ≤ 100) (hp : PrsAt w pb ps) (hcl : ∀ x W, Below w.heap.size w W → Calls Tryz.prog 15 #[.agg (prV x).toArray, .pointer (some ⟨fb, 0, none⟩)] W fun e w' => e = .returned (.bool (p x)) ∧ Below W.heap.size W w') :
    Calls Tryz.prog 29 #[.slice (some ⟨pb, 0, none⟩) ps.length c, .func (.func 15) #[] #[.pointer (some ⟨fb, 0, none⟩)]] w fun e w' => ((e = .returned (.int .i64 (-1)) ∧ ∀ x ∈ ps, p x = false) ∨ ∃ j x, e = .returned (.int .i64 (j : Nat)) ∧ ps[j]? = some x ∧ p x = true ∧ ∀ x ∈ ps.take j, p x = false) ∧ Below w.heap.size w w' := by
  have HP := hide hp; clear hp
  have Hcl := hide hcl; clear hcl
  go_enter Tryz.func29, Tryz.ntmps29
  go_wp2_with fail
  go_loopw [8] (fun i wr => ∃ j : Nat, j ≤ ps.length ∧ i = .int .i64 j ∧ (∀ x ∈ ps.take j, p x = false) ∧ Below w.heap.size w wr) (fun i _ => ps.length - (intOf i).toNat)
  case atStart => exact ⟨0, by omega, rfl, fun x hx => by simp at hx, Below.refl _ _⟩
  case round =>
  obtain ⟨j, hj, rfl, hno, hB⟩ := hrel
  by_cases hlt : j < ps.length
  · have hps : ps[j]? = some ps[j] := List.getElem?_eq_getElem hlt
    obtain ⟨y, hy⟩ : ∃ y, y = ps[j] := ⟨_, rfl⟩
    rw [← hy] at hps
    clear hy
    have HR := hide (PrsAt.at (show PrsAt wr pb ps from BoxAt.below HP.out hB) hps)
    have HB := hide hB
    have Hno := hide hno
    have Hps := hide hps
    clear hB hno hps
    cases hpy : p y
    · go_wp2_with (first
        | ((with_reducible refine wpList_load_mid ?_ 29 (.tmp 14) ?_ (pb) (j * 3) ?_ (prV y) _ ?_ Tryz.underlying29 ?_ ?_ ?_); (focus rfl); (focus rfl); (focus rfl); (focus exact HR.out); (focus rfl); (focus kernel_rfl))
        | (go_at_call 15; refine (Hcl.out y _ HB.out).mono ?_; rintro e w1 ⟨rfl, hb1⟩; rw [hpy]; have HB1 := hide (HB.out.trans (hb1.mono HB.out.size)); clear hb1))
      go_roundw
      case rel =>
        refine ⟨j + 1, by omega, by go_num, fun x hx => ?_, HB1.out⟩
        rw [List.take_add_one, Hps.out] at hx
        simp only [Option.toList_some, List.mem_append, List.mem_singleton] at hx
        rcases hx with hx | rfl
        · exact Hno.out x hx
        · exact hpy
      case measure => simp [intOf]; omega
    · go_wp2_with (first
        | ((with_reducible refine wpList_load_mid ?_ 29 (.tmp 14) ?_ (pb) (j * 3) ?_ (prV y) _ ?_ Tryz.underlying29 ?_ ?_ ?_); (focus rfl); (focus rfl); (focus rfl); (focus exact HR.out); (focus rfl); (focus kernel_rfl))
        | (go_at_call 15; refine (Hcl.out y _ HB.out).mono ?_; rintro e w1 ⟨rfl, hb1⟩; rw [hpy]; have HB1 := hide (HB.out.trans (hb1.mono HB.out.size)); clear hb1))
      go_ret
      exact ⟨.inr ⟨j, y, rfl, Hps.out, hpy, Hno.out⟩, HB1.out⟩
  · obtain rfl : j = ps.length := by omega
    go_wp2_with fail
    go_ret
    exact ⟨.inl ⟨rfl, fun x hx => hno x (by rw [List.take_length]; exact hx)⟩, hB⟩
end Go.Proofs.YthhfakkfdohcpaaGreat
/- The order of pairs. No condition. -/
namespace Go.Proofs.YthhfakkfdohcpaaGreat
open Go.RowKit Go.ChangeMaps Go.MapKept
/-- Pairs by their first, their second, their site. -/
def prCmp (p q : Int × Int × Int) : Int := or3 (Lib.compareInt p.1 q.1) (Lib.compareInt p.2.1 q.2.1) (Lib.compareInt p.2.2 q.2.2)
set_option maxRecDepth 100000 in
set_option maxHeartbeats 4000000 in
theorem order_pair (p q : Int × Int × Int) (w : World) : Calls Tryz.prog 17 #[.agg (prV p).toArray, .agg (prV q).toArray] w fun e w' => e = .returned (.int .i64 (prCmp p q)) ∧ Below w.heap.size w w' := by
  have hbs : ∀ (W : World) (x y z : Int), (Instr.buildSlice 42 3 #[(0, .int .i64 x), (1, .int .i64 y), (2, .int .i64 z)]).run Tryz.prog W = .ok (.slice (some ⟨W.heap.size, 0, none⟩) 3 3) (W.alloc (.cells #[.int .i64 x, .int .i64 y, .int .i64 z] 3)) := fun _ _ _ _ => by kernel_rfl
  go_enter Tryz.func17, Tryz.ntmps17
  simp only [prV]
  go_upto_region 1 with (fail)
  obtain ⟨W, hW⟩ : ∃ V, V = (w.alloc (.cells (prV p).toArray 29)).alloc (.cells (prV q).toArray 29) := ⟨_, rfl⟩
  have hb2 := boxes2 w _ _ _ _ W hW
  have hW' := hW
  simp only [prV] at hW'
  rw [← hW']
  clear hW hW'
  obtain ⟨b2, b3, hz, hbW⟩ := hb2
  have H2 := hide b2
  have H3 := hide b3
  have HbW := hide hbW
  have Hz := hide hz
  clear b2 b3 hz hbW
  refine wp_region_held_drew (S := fun w' => BoxAt w' w.heap.size (prV p) ∧ BoxAt w' (w.heap.size + 1) (prV q)) (by kernel_rfl) ?_ (fun hHeld => ?_)
  · exact ⟨H2.out.below (Below.refl _ _).drew, H3.out.below (Below.refl _ _).drew⟩
  generalize hw0 : World.drew W = w0 at hHeld ⊢
  have HB0 : Hid (Below W.heap.size W w0) := hide (by rw [← hw0]; exact (Below.refl _ W).drew)
  replace H2 := hide (H2.out.below HB0.out)
  replace H3 := hide (H3.out.below HB0.out)
  clear hw0
  refine take_as 0 (some 5) (v := ?_) rfl rfl (by kernel_rfl) (by kernel_rfl) (by kernel_rfl) (fun _ _ _ h => h) (Or.inl ⟨by rfl, ?_⟩) (by assumption) ?_
  rotate_left 1
  · intro w2 hSw
    go_simp
    try with_reducible rfl
  try simp only [Act.put, List.setIfInBounds_toArray, List.set_cons_zero, List.set_cons_succ]
  refine take_as 1 (some 6) (v := ?_) rfl rfl (by kernel_rfl) (by kernel_rfl) (by kernel_rfl) (fun _ _ _ h => h) (Or.inl ⟨by rfl, ?_⟩) (by assumption) ?_
  rotate_left 1
  · intro w2 hSw
    have hl := hSw.1.1 0 _ rfl
    go_simp
    try with_reducible rfl
  try simp only [Act.put, List.setIfInBounds_toArray, List.set_cons_zero, List.set_cons_succ]
  refine take_as 2 (some 7) (v := ?_) rfl rfl (by kernel_rfl) (by kernel_rfl) (by kernel_rfl) (fun _ _ _ h => h) (Or.inl ⟨by rfl, ?_⟩) (by assumption) ?_
  rotate_left 1
  · intro w2 hSw
    go_simp
    try with_reducible rfl
  try simp only [Act.put, List.setIfInBounds_toArray, List.set_cons_zero, List.set_cons_succ]
  refine take_as 3 (some 8) (v := ?_) rfl rfl (by kernel_rfl) (by kernel_rfl) (by kernel_rfl) (fun _ _ _ h => h) (Or.inl ⟨by rfl, ?_⟩) (by assumption) ?_
  rotate_left 1
  · intro w2 hSw
    have hl := hSw.2.1 0 _ rfl
    go_simp
    try with_reducible rfl
  try simp only [Act.put, List.setIfInBounds_toArray, List.set_cons_zero, List.set_cons_succ]
  refine take_as 5 (some 10) (v := ?_) rfl rfl (by kernel_rfl) (by kernel_rfl) (by kernel_rfl) (fun _ _ _ h => h) (Or.inl ⟨by rfl, ?_⟩) (by assumption) ?_
  rotate_left 1
  · intro w2 hSw
    go_simp
    try with_reducible rfl
  try simp only [Act.put, List.setIfInBounds_toArray, List.set_cons_zero, List.set_cons_succ]
  refine take_as 6 (some 11) (v := ?_) rfl rfl (by kernel_rfl) (by kernel_rfl) (by kernel_rfl) (fun _ _ _ h => h) (Or.inl ⟨by rfl, ?_⟩) (by assumption) ?_
  rotate_left 1
  · intro w2 hSw
    have hl := hSw.1.1 1 _ rfl
    go_simp
    try with_reducible rfl
  try simp only [Act.put, List.setIfInBounds_toArray, List.set_cons_zero, List.set_cons_succ]
  refine take_as 7 (some 12) (v := ?_) rfl rfl (by kernel_rfl) (by kernel_rfl) (by kernel_rfl) (fun _ _ _ h => h) (Or.inl ⟨by rfl, ?_⟩) (by assumption) ?_
  rotate_left 1
  · intro w2 hSw
    go_simp
    try with_reducible rfl
  try simp only [Act.put, List.setIfInBounds_toArray, List.set_cons_zero, List.set_cons_succ]
  refine take_as 8 (some 13) (v := ?_) rfl rfl (by kernel_rfl) (by kernel_rfl) (by kernel_rfl) (fun _ _ _ h => h) (Or.inl ⟨by rfl, ?_⟩) (by assumption) ?_
  rotate_left 1
  · intro w2 hSw
    have hl := hSw.2.1 1 _ rfl
    go_simp
    try with_reducible rfl
  try simp only [Act.put, List.setIfInBounds_toArray, List.set_cons_zero, List.set_cons_succ]
  refine take_as 10 (some 15) (v := ?_) rfl rfl (by kernel_rfl) (by kernel_rfl) (by kernel_rfl) (fun _ _ _ h => h) (Or.inl ⟨by rfl, ?_⟩) (by assumption) ?_
  rotate_left 1
  · intro w2 hSw
    go_simp
    try with_reducible rfl
  try simp only [Act.put, List.setIfInBounds_toArray, List.set_cons_zero, List.set_cons_succ]
  refine take_as 11 (some 16) (v := ?_) rfl rfl (by kernel_rfl) (by kernel_rfl) (by kernel_rfl) (fun _ _ _ h => h) (Or.inl ⟨by rfl, ?_⟩) (by assumption) ?_
  rotate_left 1
  · intro w2 hSw
    have hl := hSw.1.1 2 _ rfl
    go_simp
    try with_reducible rfl
  try simp only [Act.put, List.setIfInBounds_toArray, List.set_cons_zero, List.set_cons_succ]
  refine take_as 12 (some 17) (v := ?_) rfl rfl (by kernel_rfl) (by kernel_rfl) (by kernel_rfl) (fun _ _ _ h => h) (Or.inl ⟨by rfl, ?_⟩) (by assumption) ?_
  rotate_left 1
  · intro w2 hSw
    go_simp
    try with_reducible rfl
  try simp only [Act.put, List.setIfInBounds_toArray, List.set_cons_zero, List.set_cons_succ]
  refine take_as 13 (some 18) (v := ?_) rfl rfl (by kernel_rfl) (by kernel_rfl) (by kernel_rfl) (fun _ _ _ h => h) (Or.inl ⟨by rfl, ?_⟩) (by assumption) ?_
  rotate_left 1
  · intro w2 hSw
    have hl := hSw.2.1 2 _ rfl
    go_simp
    try with_reducible rfl
  try simp only [Act.put, List.setIfInBounds_toArray, List.set_cons_zero, List.set_cons_succ]
  refine wpAnyH_ready (rs := [4]) (by kernel_rfl) (by simp) ?_
  refine AllReadyH.cons rfl (fun K hK => ?_) ?_
  · go_simp
    refine (Tryz.cmp_Compare_int _ _ _).mono ?_
    rintro e w1 ⟨rfl, hwx⟩
    have HB1 : Hid (Below W.heap.size W w1) := hide (by rw [hwx]; exact HB0.out)
    replace H2 : Hid (BoxAt w1 w.heap.size (prV p)) := hide (by rw [hwx]; exact H2.out)
    replace H3 : Hid (BoxAt w1 (w.heap.size + 1) (prV q)) := hide (by rw [hwx]; exact H3.out)
    clear hwx
    go_wp2_with fail
    refine hK.out _ _ ?_ (fun hHeld => ?_)
    · exact ⟨H2.out, H3.out⟩
    clear hK K
    try simp only [Act.put, List.setIfInBounds_toArray, List.set_cons_zero, List.set_cons_succ]
    refine wpAnyH_ready (rs := [9]) (by kernel_rfl) (by simp) ?_
    refine AllReadyH.cons rfl (fun K hK => ?_) ?_
    · go_simp
      refine (Tryz.cmp_Compare_int _ _ _).mono ?_
      rintro e w2 ⟨rfl, hwx⟩
      have HB2 : Hid (Below W.heap.size W w2) := hide (by rw [hwx]; exact HB1.out)
      replace H2 : Hid (BoxAt w2 w.heap.size (prV p)) := hide (by rw [hwx]; exact H2.out)
      replace H3 : Hid (BoxAt w2 (w.heap.size + 1) (prV q)) := hide (by rw [hwx]; exact H3.out)
      clear hwx
      go_wp2_with fail
      refine hK.out _ _ ?_ (fun hHeld => ?_)
      · exact ⟨H2.out, H3.out⟩
      clear hK K
      try simp only [Act.put, List.setIfInBounds_toArray, List.set_cons_zero, List.set_cons_succ]
      refine wpAnyH_ready (rs := [14]) (by kernel_rfl) (by simp) ?_
      refine AllReadyH.cons rfl (fun K hK => ?_) ?_
      · go_simp
        refine (Tryz.cmp_Compare_int _ _ _).mono ?_
        rintro e w3 ⟨rfl, hwx⟩
        have HB3 : Hid (Below W.heap.size W w3) := hide (by rw [hwx]; exact HB2.out)
        replace H2 : Hid (BoxAt w3 w.heap.size (prV p)) := hide (by rw [hwx]; exact H2.out)
        replace H3 : Hid (BoxAt w3 (w.heap.size + 1) (prV q)) := hide (by rw [hwx]; exact H3.out)
        clear hwx
        go_wp2_with fail
        refine hK.out _ _ ?_ (fun hHeld => ?_)
        · exact ⟨H2.out, H3.out⟩
        clear hK K
        try simp only [Act.put, List.setIfInBounds_toArray, List.set_cons_zero, List.set_cons_succ]
        refine wpAnyH_ready (rs := [15]) (by kernel_rfl) (by simp) ?_
        refine AllReadyH.cons rfl (fun K hK => ?_) ?_
        · go_simp
          refine name_world (fun w4 hwn => ?_)
          have hbn : Below w3.heap.size w3 w4 := by rw [hwn]; exact (Below.refl _ _).alloc (Nat.le_refl _) _
          have HQ : Hid (BoxAt w4 w3.heap.size [.int .i64 (Lib.compareInt p.1 q.1), .int .i64 (Lib.compareInt p.2.1 q.2.1), .int .i64 (Lib.compareInt p.2.2 q.2.2)]) := hide (by rw [hwn]; exact BoxAt.new _ _ _)
          have HB4 : Hid (Below W.heap.size W w4) := hide (HB3.out.trans (hbn.mono HB3.out.size))
          replace H2 := hide (H2.out.below hbn)
          replace H3 := hide (H3.out.below hbn)
          clear hbn hwn
          refine hK.out _ _ ?_ (fun hHeld => ?_)
          · exact ⟨H2.out, H3.out⟩
          clear hK K
          try simp only [Act.put, List.setIfInBounds_toArray, List.set_cons_zero, List.set_cons_succ]
          refine wpAnyH_ready (rs := [16]) (by kernel_rfl) (by simp) ?_
          refine AllReadyH.cons rfl (fun K hK => ?_) ?_
          · go_simp
            refine (or_three _ _ _ _ 3 _ HQ.out).mono ?_
            rintro e w5 ⟨rfl, hwx⟩
            have HB5 : Hid (Below W.heap.size W w5) := hide (by rw [← hwx]; exact HB4.out)
            replace H2 : Hid (BoxAt w5 w.heap.size (prV p)) := hide (by rw [← hwx]; exact H2.out)
            replace H3 : Hid (BoxAt w5 (w.heap.size + 1) (prV q)) := hide (by rw [← hwx]; exact H3.out)
            clear hwx
            go_wp2_with fail
            refine hK.out _ _ ?_ (fun hHeld => ?_)
            · exact ⟨H2.out, H3.out⟩
            clear hK K
            try simp only [Act.put, List.setIfInBounds_toArray, List.set_cons_zero, List.set_cons_succ]
            refine take_as 17 (some 4) (v := ?_) rfl rfl (by kernel_rfl) (by kernel_rfl) (by kernel_rfl) (fun _ _ _ h => h) (Or.inl ⟨by rfl, ?_⟩) (by assumption) ?_
            rotate_left 1
            · intro w2 hSw
              go_simp
              try with_reducible rfl
            try simp only [Act.put, List.setIfInBounds_toArray, List.set_cons_zero, List.set_cons_succ]
            refine wpAnyH_done (by kernel_rfl) ?_ _
            go_wp2_with fail
            go_ret
            exact ⟨rfl, HbW.out.trans (HB5.out.mono HbW.out.size)⟩
          exact AllReadyH.nil
        exact AllReadyH.nil
      exact AllReadyH.nil
    exact AllReadyH.nil
  exact AllReadyH.nil
end Go.Proofs.YthhfakkfdohcpaaGreat
