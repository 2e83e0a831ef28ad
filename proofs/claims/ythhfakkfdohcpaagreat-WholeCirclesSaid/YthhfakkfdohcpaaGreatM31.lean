/- whole.Circles at any pairs (at most a hundred). No condition. -/
import Derived.Test.YthhfakkfdohcpaaGreatM27
import Derived.Test.YthhfakkfdohcpaaGreatM30
import Derived.Test.YthhfakkfdohcpaaGreatM11
import Derived.Test.YthhfakkfdohcpaaGreatM09
namespace Go.Proofs.YthhfakkfdohcpaaGreat
open Go.RowKit Go.ChangeMaps Go.MapKept
set_option maxRecDepth 100000 in
set_option maxHeartbeats 2000000 in
theorem clone_none (pb c : Nat) (w : World) :
    Calls Tryz.prog 14 #[.slice (some ⟨pb, 0, none⟩) 0 c] w fun e w' => ∃ g cap, e = .returned (.slice (some ⟨g, 0, none⟩) 0 cap) ∧ PrsAt w' g [] ∧ w.heap.size ≤ g ∧ Below w.heap.size w w' := by
  have He := fun W => Lib.run_eql_slice_nil (P := Tryz.prog) W 24 29 (some ⟨pb, 0, none⟩) 0 c 0 0 Tryz.underlying24
  have hb0 : ∀ W, (Instr.buildSlice 24 0 #[]).run Tryz.prog W = .ok (.slice (some ⟨W.heap.size, 0, none⟩) 0 0) (W.alloc (.cells #[] 29)) := fun _ => by kernel_rfl
  have hal : Below w.heap.size w (w.alloc (.cells #[] 29)) := (Below.refl _ w).alloc (Nat.le_refl _) _
  have hN : PrsAt (w.alloc (.cells #[] 29)) w.heap.size [] := BoxAt.new w [] 29
  go_enter Tryz.func14, Tryz.ntmps14
  go_wp2_with fail
  go_ret
  exact ⟨_, _, rfl, hN, Nat.le_refl _, hal⟩
theorem clone_any (ps : List Tri) (pb c : Nat) (w : World) (hn : ps.length ≤ 100) (hp : PrsAt w pb ps) :
    Calls Tryz.prog 14 #[.slice (some ⟨pb, 0, none⟩) ps.length c] w fun e w' => ∃ g cap, e = .returned (.slice (some ⟨g, 0, none⟩) ps.length cap) ∧ PrsAt w' g ps ∧ ps.length ≤ cap ∧ w.heap.size ≤ g ∧ Below w.heap.size w w' := by
  by_cases h0 : 0 < ps.length
  · refine (clone_pairs ps pb c w h0 hn hp).mono ?_
    rintro e w' ⟨g, cap, rfl, ho, hb⟩
    obtain ⟨g2, cap2, he, hg2, hbx, hle⟩ := own_box ho h0
    injection he with e1 e2 e3
    injection e1 with e1
    injection e1 with e1
    subst e1 e3
    exact ⟨g, cap, rfl, hbx, hle, hg2, hb⟩
  · have hz : ps = [] := List.length_eq_zero_iff.1 (by omega)
    subst hz
    refine (clone_none pb c w).mono ?_
    rintro e w' ⟨g, cap, rfl, h1, h2, h3⟩
    exact ⟨g, cap, rfl, h1, Nat.zero_le _, h2, h3⟩
/-- A way from pair to pair. -/
inductive PWay (ps : List Tri) : Int → Int → Prop
  | here (a : Int) : PWay ps a a
  | step {a b c : Int} (s : Int) : (a, b, s) ∈ ps → PWay ps b c → PWay ps a c
theorem way_iff {L : Gr} {ps : List Tri} (h : ∀ x y, Edge L x y ↔ ∃ s, (x, y, s) ∈ ps) (a b : Int) : Way L a b ↔ PWay ps a b := by
  constructor
  · intro w
    induction w with
    | here => exact .here _
    | step e _ ih =>
      obtain ⟨s, hs⟩ := (h _ _).1 e
      exact .step s hs ih
  · intro w
    induction w with
    | here => exact .here _
    | step s hs _ ih => exact .step ((h _ _).2 ⟨s, hs⟩) ih
/-- What Circles gives. -/
def CrcTo (w : World) (ps : List Tri) (e : Ending) (w' : World) : Prop :=
  ∃ g cap rs, e = .returned (.slice (some ⟨g, 0, none⟩) rs.length cap) ∧ (∀ x, x ∈ rs ↔ x ∈ ps ∧ PWay ps x.2.1 x.1) ∧ rs.Pairwise Tlt ∧ PrsAt w' g rs ∧ w.heap.size ≤ g ∧ Below w.heap.size w w'
open Classical in
noncomputable def onC (ps : List Tri) (x : Tri) : Bool := decide (PWay ps x.2.1 x.1)
theorem onC_is (ps : List Tri) (x : Tri) : onC ps x = true ↔ PWay ps x.2.1 x.1 := by
  unfold onC
  exact @decide_eq_true_iff _ (Classical.propDecidable _)
theorem circ_says {L : Gr} {ps : List Tri} {x : Tri} {W w' : World} {e : Ending} (hE : ∀ x y, Edge L x y ↔ ∃ s, (x, y, s) ∈ ps) (h : ∃ r : Bool, e = .returned (.bool (!r)) ∧ (r = true ↔ Way L x.2.1 x.1) ∧ Below W.heap.size W w') : e = .returned (.bool (!onC ps x)) ∧ Below W.heap.size W w' := by
  obtain ⟨r, rfl, hr, hb⟩ := h
  refine ⟨?_, hb⟩
  have : r = onC ps x := by
    rw [Bool.eq_iff_iff, hr, way_iff hE, onC_is]
  rw [this]
set_option maxRecDepth 100000 in
set_option maxHeartbeats 8000000 in
theorem circles_any (ps : List Tri) (pb c : Nat) (w : World) (hn : ps.length ≤ 100) (hp : PrsAt w pb ps) :
    Calls Tryz.prog 5 #[.slice (some ⟨pb, 0, none⟩) ps.length c] w (CrcTo w ps) := by
  have hk0 : ∀ W, (Instr.makeMap 69 none).run Tryz.prog W = .ok (.map (some W.heap.size)) (W.alloc (.map #[] 0)) := fun _ => by kernel_rfl
  have hpb : pb < w.heap.size := hp.2.2
  have HP := hide hp; clear hp
  go_enter Tryz.func5, Tryz.ntmps5
  go_upto_region 2 with (fail)
  obtain ⟨W, hW⟩ : ∃ V, V = w.alloc (.map #[] 0) := ⟨_, rfl⟩
  have HG := hide (show GraphAt W w.heap.size w.heap.size [] by rw [hW]; exact graph_none _ _ _ (MapAt.new w) (Nat.le_refl _))
  have HbW : Hid (Below w.heap.size w W) := hide (by rw [hW]; exact (Below.refl _ w).alloc (Nat.le_refl _) _)
  rw [← hW]
  clear hW hk0
  go_upto_region 3 with (go_at_call 11; refine (add_any w.heap.size w.heap.size [] ps pb c _ HG.out HbW.out.size (BoxAt.below HP.out HbW.out) hpb hn).mono ?_; rintro e w1 ⟨L, rfl, hG, hE, hb⟩; have HE := hide hE; replace HG := hide hG; replace HbW := hide (HbW.out.trans hb); clear hE hG hb)
  have hE2 : ∀ x y, Edge L x y ↔ ∃ s, (x, y, s) ∈ ps := fun x y => by
    rw [HE.out]
    constructor
    · rintro (⟨m, ks, h, -⟩ | h)
      · simp at h
      · exact h
    · exact .inr
  have HE2 := hide hE2
  clear HE hE2
  go_upto_region 4 with (first
    | (go_at_call 12; refine (circled_fn w.heap.size _).mono ?_; rintro e w2 ⟨rfl, hbg, hb⟩; have HB := hide hbg; replace HG := hide (HG.out.below hb); replace HbW := hide (HbW.out.trans (hb.mono HbW.out.size)); clear hbg hb)
    | ((with_reducible refine wpList_store_cell ?_ ?_ ?_ 71 (.tmp 4) (.tmp 11) ?_ w2.heap.size 0 [.nilFunc] (.func (.func 27) #[] #[.pointer (some ⟨w1.heap.size, 0, none⟩)]) [(.func (.func 27) #[] #[.pointer (some ⟨w1.heap.size, 0, none⟩)])] ?_ ?_ ?_ ?_ ?_ ?_ ?_ ?_); (focus rfl); (focus rfl); (focus rfl); (focus rfl); (focus rfl); (focus rfl); (focus exact BoxAt.new _ _ _); (focus (show 0 < 1; decide)); (focus rfl); (focus rfl); (focus kernel_rfl); intro V4 hV hT; have HF := hide hV; have hb : Below w2.heap.size w2 V4 := ((Below.refl _ w2).alloc (Nat.le_refl _) _).trans (hT.below (by simp) (fun k hk => by omega)); replace HB := hide (HB.out.below hb); replace HG := hide (HG.out.below hb); replace HbW := hide (HbW.out.trans (hb.mono HbW.out.size)); clear hb hV hT))
  obtain ⟨gb, hgb⟩ : ∃ q, q = w1.heap.size := ⟨_, rfl⟩
  obtain ⟨fb, hfb⟩ : ∃ q, q = w2.heap.size := ⟨_, rfl⟩
  rw [← hgb] at HB HF
  rw [← hfb] at HF ⊢
  clear hgb hfb
  have Hlt : Hid (fb < V4.heap.size ∧ gb < V4.heap.size ∧ w.heap.size < V4.heap.size ∧ ∀ e ∈ L, e.2.1 < V4.heap.size) := hide ⟨HF.out.2.2, HB.out.2.2, HG.out.map.lt, fun e he => MapAt.lt (HG.out.set e he)⟩
  have Hqs : Hid (∀ x, x ∈ ps.filter (fun x => !(fun x => !onC ps x) x) ↔ x ∈ ps ∧ PWay ps x.2.1 x.1) := hide (fun x => by rw [List.mem_filter, ← onC_is]; simp)
  have Hql : Hid ((ps.filter (fun x => !(fun x => !onC ps x) x)).length ≤ ps.length) := hide (List.length_filter_le _ _)
  obtain ⟨qs, hqs⟩ : ∃ q, q = ps.filter (fun x => !(fun x => !onC ps x) x) := ⟨_, rfl⟩
  rw [← hqs] at Hqs Hql
  have Hq0 := hide hqs
  clear hqs
  go_upto_region 5 with (first
    | (go_at_call 14; refine (clone_any ps pb c _ hn (BoxAt.below HP.out HbW.out)).mono ?_; rintro e w3 ⟨g, cap, rfl, hps, hcap, hg, hb⟩; have HPS := hide hps; have Hne : Hid (w.heap.size ≤ g ∧ fb ≠ g ∧ gb ≠ g ∧ w.heap.size ≠ g ∧ ∀ e ∈ L, e.2.1 ≠ g) := hide ⟨Nat.le_trans HbW.out.size hg, by have := Hlt.out; omega, by have := Hlt.out; omega, by have := Hlt.out; omega, fun e he => by have := Hlt.out.2.2.2 e he; omega⟩; replace HB := hide (HB.out.below hb); replace HF := hide (HF.out.below hb); replace HG := hide (HG.out.below hb); replace HbW := hide (HbW.out.trans (hb.mono HbW.out.size)); have Hcap := hide hcap; clear hps hg hb hcap)
    | (go_at_call 13; have hdel := (del_pairs ps (fun x => !onC ps x) g cap fb _ hn Hcap.out HPS.out (fun x W hW => (cdel_any L fb gb w.heap.size w.heap.size x.1 x.2.1 x.2.2 W (HF.out.but hW Hne.out.2.1) (HB.out.but hW Hne.out.2.2.1) (HG.out.but hW Hne.out.2.2.2.1 Hne.out.2.2.2.2)).mono (fun e w' h => circ_says HE2.out h))); rw [← Hq0.out] at hdel; refine hdel.mono ?_; clear hdel; rintro e w4 ⟨rfl, hP4, hT4⟩; have HP4 := hide hP4; replace HbW := hide (HbW.out.trans (hT4.below HbW.out.size (fun k hk => by have := Hne.out.1; omega))); clear hP4 hT4))
  clear HB HF HG HE2 HPS Hq0
  go_upto_region 6 with (go_at_call 16; refine (sort_pairs qs g cap _ HP4.out (by have := Hql.out; omega)).mono ?_; rintro e w5 ⟨rfl, rs, hpm, hso, hP5, hT5⟩; have HP5 := hide hP5; have Hpm := hide hpm; have Hso := hide hso; replace HbW := hide (HbW.out.trans (hT5.below HbW.out.size (fun k hk => by have := Hne.out.1; omega))); clear hP5 hT5 hpm hso)
  rw [← Hpm.out.length_eq]
  have Hrl : Hid (rs.length ≤ ps.length) := hide (by rw [Hpm.out.length_eq]; exact Hql.out)
  go_wp2_with (go_at_call 18; refine (compact_pairs rs g cap _ (by have := Hrl.out; omega) (Nat.le_trans Hrl.out Hcap.out) HP5.out).mono ?_; rintro e w6 ⟨rfl, hP6, hT6⟩; have HP6 := hide hP6; replace HbW := hide (HbW.out.trans (hT6.below HbW.out.size (fun k hk => by have := Hne.out.1; omega))); clear hP6 hT6)
  go_ret
  obtain ⟨c1, c2⟩ := cpt_is Hso.out rs.length (Nat.le_refl _)
  exact ⟨g, cap, cpt rs rs.length, rfl, fun x => by rw [c1, List.take_length, Hpm.out.mem_iff]; exact Hqs.out x, c2, HP6.out, Hne.out.1, HbW.out⟩
end Go.Proofs.YthhfakkfdohcpaaGreat
/- The law's own definitions. No condition. -/
namespace Go.Proofs.YthhfakkfdohcpaaGreat
open Go.RowKit
def bodyOf (id x y : Int) : List St := [(10 * id, 16, x), (10 * id + 1, 16, y), (10 * id + 2, 17, y), (10 * id + 3, 17, x)]
def Lk3 (id x y : Int) : Prop := id = 1 ∧ x = 0 ∧ y = 1 ∨ id = 2 ∧ x = 1 ∧ y = 0 ∨ id = 2 ∧ x = 1 ∧ y = 2
def tName : ByteArray := ⟨#[116]⟩
set_option maxRecDepth 100000 in
set_option maxHeartbeats 4000000 in
theorem locker_any (id x y : Int) (h : Lk3 id x y) (w : World) :
    Calls Tryz.prog 21 #[.int .i64 id, .int .i64 x, .int .i64 y] w fun e w' => ∃ g, e = .returned (.agg (dnL ⟨id, 10 * id + 9, tName, g⟩).toArray) ∧ w.heap.size ≤ g ∧ BodyAt w' g (bodyOf id x y) ∧ Below w.heap.size w w' := by
  rcases h with ⟨rfl, rfl, rfl⟩ | ⟨rfl, rfl, rfl⟩ | ⟨rfl, rfl, rfl⟩
  · go_enter Tryz.func21, Tryz.ntmps21
    go_upto_region 2 with (fail)
    refine wp_alloc_as (E' := ((bodyOf 1 0 1).flatMap stV).toArray) (by kernel_rfl) (fun W hW => ?_)
    obtain ⟨b1, b2, hz, hbW⟩ := boxes2 w dfZ ((bodyOf 1 0 1).flatMap stV) _ _ W hW
    have B1 := hide b1
    have B2 := hide b2
    have HbW := hide hbW
    have Hz := hide hz
    clear b1 b2 hz hbW hW
    go_wp2_with ((with_reducible refine wpList_store_in ?_ ?_ 83 (.tmp 6) (.tmp 33) ?_ w.heap.size 0 dfZ (dnL ⟨1, 19, tName, w.heap.size + 1⟩) (dnL ⟨1, 19, tName, w.heap.size + 1⟩) ?_ ?_ ?_ ?_ ?_ ?_ ?_ ?_); (focus rfl); (focus rfl); (focus rfl); (focus rfl); (focus rfl); (focus exact B1.out); (focus (show 0 + 12 ≤ 12; decide)); (focus rfl); (focus kernel_rfl); (focus exact dnL_one); intro V8 hV8 hT8; have HV8 := hide hV8; have HT8 := hide hT8; clear hV8 hT8)
    exact bodyPost_ret (res_box (cs := (dnL ⟨1, 19, tName, w.heap.size + 1⟩)) rfl rfl HV8.out Tryz.underlying83 rfl (by kernel_rfl)) rfl ⟨w.heap.size + 1, rfl, by omega, B2.out.but HT8.out (by omega), HbW.out.trans (HT8.out.below (by have := Hz.out; omega) (fun k hk => by omega))⟩
  · go_enter Tryz.func21, Tryz.ntmps21
    go_upto_region 2 with (fail)
    refine wp_alloc_as (E' := ((bodyOf 2 1 0).flatMap stV).toArray) (by kernel_rfl) (fun W hW => ?_)
    obtain ⟨b1, b2, hz, hbW⟩ := boxes2 w dfZ ((bodyOf 2 1 0).flatMap stV) _ _ W hW
    have B1 := hide b1
    have B2 := hide b2
    have HbW := hide hbW
    have Hz := hide hz
    clear b1 b2 hz hbW hW
    go_wp2_with ((with_reducible refine wpList_store_in ?_ ?_ 83 (.tmp 6) (.tmp 33) ?_ w.heap.size 0 dfZ (dnL ⟨2, 29, tName, w.heap.size + 1⟩) (dnL ⟨2, 29, tName, w.heap.size + 1⟩) ?_ ?_ ?_ ?_ ?_ ?_ ?_ ?_); (focus rfl); (focus rfl); (focus rfl); (focus rfl); (focus rfl); (focus exact B1.out); (focus (show 0 + 12 ≤ 12; decide)); (focus rfl); (focus kernel_rfl); (focus exact dnL_one); intro V8 hV8 hT8; have HV8 := hide hV8; have HT8 := hide hT8; clear hV8 hT8)
    exact bodyPost_ret (res_box (cs := (dnL ⟨2, 29, tName, w.heap.size + 1⟩)) rfl rfl HV8.out Tryz.underlying83 rfl (by kernel_rfl)) rfl ⟨w.heap.size + 1, rfl, by omega, B2.out.but HT8.out (by omega), HbW.out.trans (HT8.out.below (by have := Hz.out; omega) (fun k hk => by omega))⟩
  · go_enter Tryz.func21, Tryz.ntmps21
    go_upto_region 2 with (fail)
    refine wp_alloc_as (E' := ((bodyOf 2 1 2).flatMap stV).toArray) (by kernel_rfl) (fun W hW => ?_)
    obtain ⟨b1, b2, hz, hbW⟩ := boxes2 w dfZ ((bodyOf 2 1 2).flatMap stV) _ _ W hW
    have B1 := hide b1
    have B2 := hide b2
    have HbW := hide hbW
    have Hz := hide hz
    clear b1 b2 hz hbW hW
    go_wp2_with ((with_reducible refine wpList_store_in ?_ ?_ 83 (.tmp 6) (.tmp 33) ?_ w.heap.size 0 dfZ (dnL ⟨2, 29, tName, w.heap.size + 1⟩) (dnL ⟨2, 29, tName, w.heap.size + 1⟩) ?_ ?_ ?_ ?_ ?_ ?_ ?_ ?_); (focus rfl); (focus rfl); (focus rfl); (focus rfl); (focus rfl); (focus exact B1.out); (focus (show 0 + 12 ≤ 12; decide)); (focus rfl); (focus kernel_rfl); (focus exact dnL_one); intro V8 hV8 hT8; have HV8 := hide hV8; have HT8 := hide hT8; clear hV8 hT8)
    exact bodyPost_ret (res_box (cs := (dnL ⟨2, 29, tName, w.heap.size + 1⟩)) rfl rfl HV8.out Tryz.underlying83 rfl (by kernel_rfl)) rfl ⟨w.heap.size + 1, rfl, by omega, B2.out.but HT8.out (by omega), HbW.out.trans (HT8.out.below (by have := Hz.out; omega) (fun k hk => by omega))⟩
end Go.Proofs.YthhfakkfdohcpaaGreat
/- whole.Cold at both programs of the examples. No condition. -/
namespace Go.Proofs.YthhfakkfdohcpaaGreat
open Go.RowKit Go.ChangeMaps Go.MapKept
def vA : Nat → Int
  | 0 => 0 | 1 => 1 | 2 => 3 | 3 => 1 | _ => 0
def ksA : Nat → Int
  | 0 => 1 | 1 => 2 | _ => 0
def lkA : Nat → Int
  | 0 => 0 | 1 => 1 | _ => 3
def prA : Nat → Option (Int × Int)
  | 1 => some (0, 1) | _ => none
def lpA : Nat → List (Value × Value)
  | 0 => [] | 1 => [] | _ => [(.agg #[.int .i64 0, .int .i64 1, .int .i64 11], .bool true)]
def vB : Nat → Int
  | 0 => 0 | 1 => 2 | 2 => 3 | 3 => 2 | _ => 0
def ksB : Nat → Int
  | 0 => 2 | 1 => 1 | _ => 0
def lkB : Nat → Int
  | 0 => 0 | 1 => 2 | _ => 3
def prB : Nat → Option (Int × Int)
  | 1 => some (1, 0) | _ => none
def lpB : Nat → List (Value × Value)
  | 0 => [] | 1 => [] | _ => [(.agg #[.int .i64 1, .int .i64 0, .int .i64 21], .bool true)]
def vC : Nat → Int
  | 0 => 0 | 1 => 2 | 2 => 6 | 3 => 2 | _ => 0
def ksC : Nat → Int
  | 0 => 2 | 1 => 4 | _ => 0
def lkC : Nat → Int
  | 0 => 0 | 1 => 2 | _ => 6
def prC : Nat → Option (Int × Int)
  | 1 => some (1, 2) | _ => none
def lpC : Nat → List (Value × Value)
  | 0 => [] | 1 => [] | _ => [(.agg #[.int .i64 1, .int .i64 2, .int .i64 21], .bool true)]
theorem four {ss : List St} (hl : ss.length = 4) {P : Nat → St → Prop} {a b c d : St} (e : ss = [a, b, c, d]) (h0 : P 0 a) (h1 : P 1 b) (h2 : P 2 c) (h3 : P 3 d) : ∀ j s, ss[j]? = some s → P j s := by
  subst e
  intro j s h
  match j, h with
  | 0, h => simp at h; subst h; exact h0
  | 1, h => simp at h; subst h; exact h1
  | 2, h => simp at h; subst h; exact h2
  | 3, h => simp at h; subst h; exact h3
  | n + 4, h => simp at h
theorem body_site (id x y : Int) : ∀ j s, (bodyOf id x y)[j]? = some s → s.1 ∉ ((bodyOf id x y).take j).map (·.1) :=
  four rfl rfl (by simp) (by simp [bodyOf]; omega) (by simp [bodyOf]; omega) (by simp [bodyOf]; omega)
theorem body_op (id x y : Int) : ∀ s ∈ bodyOf id x y, s.2.1 = 16 ∨ s.2.1 = 17 := by
  intro s hs
  simp only [bodyOf, List.mem_cons, List.not_mem_nil, or_false] at hs
  rcases hs with rfl | rfl | rfl | rfl <;> simp
theorem goesA : Goes (bodyOf 1 0 1) vA ksA lkA prA lpA := {
  kd := four rfl rfl (.first (.inl ⟨rfl, rfl⟩)) (.second (may := 1) (bit := 2) (.inl ⟨rfl, rfl, rfl, rfl⟩)) (.una (.inl ⟨rfl, rfl, rfl⟩)) (.una (.inr (.inl ⟨rfl, rfl, rfl⟩)))
  lk := four rfl rfl rfl rfl rfl rfl
  fst := four rfl rfl (fun _ => rfl) (fun _ => rfl) (fun h => absurd rfl h) (fun h => absurd rfl h)
  lp := four rfl rfl rfl rfl rfl rfl
  site := body_site 1 0 1 }
theorem goesB : Goes (bodyOf 2 1 0) vB ksB lkB prB lpB := {
  kd := four rfl rfl (.first (.inr ⟨rfl, rfl⟩)) (.second (may := 2) (bit := 1) (.inr (.inl ⟨rfl, rfl, rfl, rfl⟩))) (.una (.inr (.inr (.inl ⟨rfl, rfl, rfl⟩)))) (.una (.inr (.inr (.inr (.inl ⟨rfl, rfl, rfl⟩)))))
  lk := four rfl rfl rfl rfl rfl rfl
  fst := four rfl rfl (fun _ => rfl) (fun _ => rfl) (fun h => absurd rfl h) (fun h => absurd rfl h)
  lp := four rfl rfl rfl rfl rfl rfl
  site := body_site 2 1 0 }
theorem goesC : Goes (bodyOf 2 1 2) vC ksC lkC prC lpC := {
  kd := four rfl rfl (.first (.inr ⟨rfl, rfl⟩)) (.second (may := 2) (bit := 4) (.inr (.inr ⟨rfl, rfl, rfl, rfl⟩))) (.una (.inr (.inr (.inr (.inr ⟨rfl, rfl, rfl⟩))))) (.una (.inr (.inr (.inr (.inl ⟨rfl, rfl, rfl⟩)))))
  lk := four rfl rfl rfl rfl rfl rfl
  fst := four rfl rfl (fun _ => rfl) (fun _ => rfl) (fun h => absurd rfl h) (fun h => absurd rfl h)
  lp := four rfl rfl rfl rfl rfl rfl
  site := body_site 2 1 2 }
theorem way_yes : WaySays (0, 1, 11) (1, 0, 21) true := fun _L hE =>
  ⟨⟨fun _ => rfl, fun _ => .step ((hE 1 0).2 (.inr ⟨rfl, rfl⟩)) (.here _)⟩, ⟨fun _ => rfl, fun _ => .step ((hE 0 1).2 (.inl ⟨rfl, rfl⟩)) (.here _)⟩⟩
theorem way_no : WaySays (0, 1, 11) (1, 2, 21) false := fun L hE => by
  have h1 : ∀ x y, Way L x y → (x = 1 ∨ x = 2) → (y = 1 ∨ y = 2) := by
    intro x y h
    induction h with
    | here => exact id
    | step e _ ih =>
      intro hx
      apply ih
      rcases (hE _ _).1 e with ⟨h1, h2⟩ | ⟨h1, h2⟩
      · simp only at h1 h2
        omega
      · exact .inr h2
  have h2 : ∀ x y, Way L x y → x = 2 → y = 2 := by
    intro x y h
    induction h with
    | here => exact id
    | step e _ ih =>
      intro hx
      exfalso
      rcases (hE _ _).1 e with ⟨h1, -⟩ | ⟨h1, -⟩
      · simp only at h1
        omega
      · simp only at h1
        omega
  constructor
  · constructor
    · intro h
      have := h1 _ _ h (.inl rfl)
      simp at this
    · intro h
      cases h
  · constructor
    · intro h
      have := h2 _ _ h rfl
      simp at this
    · intro h
      cases h
/-- A program of the examples as it lies. -/
structure CrAt (W : World) (last : Int) (b : Nat → Nat) (g1 g2 : Nat) : Prop where
  defs : DefsAt W (b 5) ⟨1, 19, tName, g1⟩ ⟨2, 29, tName, g2⟩
  bd1 : BodyAt W g1 (bodyOf 1 0 1)
  bd2 : BodyAt W g2 (bodyOf 2 1 last)
  heads : BoxAt W (b 4) headL
theorem CrAt.below {W W' : World} {last : Int} {b : Nat → Nat} {g1 g2 : Nat} (h : CrAt W last b g1 g2) (hb : Below W.heap.size W W') : CrAt W' last b g1 g2 :=
  ⟨h.defs.below hb, BoxAt.below h.bd1 hb, BoxAt.below h.bd2 hb, h.heads.below hb⟩
set_option maxHeartbeats 4000000 in
theorem cold_cross (last : Int) (cc : Bool) (lv : Int) (hl : lv = 0 ∨ lv = 2) (v lks lk : Nat → Int) (pr : Nat → Option (Int × Int)) (lp : Nat → List (Value × Value)) (hgo : Goes (bodyOf 2 1 last) v lks lk pr lp) (hv0 : v 0 = 0) (hv4 : v 4 = 0) (hlk0 : lk 0 = 0) (hlp0 : lp 0 = []) (hlp4 : lp 4 = [(.agg #[.int .i64 1, .int .i64 last, .int .i64 21], .bool true)])
    (hw : WaySays (0, 1, 11) (1, last, 21) cc) (b : Nat → Nat) (g1 g2 : Nat) (w : World) (h : CrAt w last b g1 g2) :
    Calls Tryz.prog 19 #[.agg (pgL b).toArray, .agg ([.int .i64 lv, .slice none 0 0]).toArray, .slice none 0 0] w (ColdTo w (0, 1, 11) (1, last, 21) (fsOf cc)) := by
  refine cold_any b lv hl (0, 1, 11) (1, last, 21) (fsOf cc) (lkA 4) (lk 4) w ?_ ?_ ?_ ?_ h.heads
  · intro W hW
    have hc := h.below hW
    exact order_any b ⟨1, 19, tName, g1⟩ ⟨2, 29, tName, g2⟩ rfl rfl (bodyOf 1 0 1) (bodyOf 2 1 last) rfl rfl rfl rfl W hc.defs hc.bd1 hc.bd2
  · intro W As ns cs hW
    have hc := h.below hW
    exact run_any b ⟨1, 19, tName, g1⟩ (bodyOf 1 0 1) (body_op 1 0 1) rfl (body_site 1 0 1) vA ksA lkA prA lpA goesA rfl rfl rfl rfl 0 1 11 rfl As ns cs lv hl W (fun V hV => find_one b ⟨1, 19, tName, g1⟩ ⟨2, 29, tName, g2⟩ V (hc.below hV).defs) hc.bd1
  · intro W As ns cs hW
    have hc := h.below hW
    exact run_any b ⟨2, 29, tName, g2⟩ (bodyOf 2 1 last) (body_op 2 1 last) rfl (body_site 2 1 last) v lks lk pr lp hgo hv0 hv4 hlk0 hlp0 1 last 21 hlp4 As ns cs lv hl W (fun V hV => find_two b ⟨1, 19, tName, g1⟩ ⟨2, 29, tName, g2⟩ (by show (1 : Int) ≠ 2; decide) V (hc.below hV).defs) hc.bd2
  · intro W g c p1 p2 hW hp
    have hc := h.below hW
    exact findings_any b ⟨1, 19, tName, g1⟩ ⟨2, 29, tName, g2⟩ rfl rfl 0 1 1 last cc hw p1 p2 _ g c W hp hc.defs hc.heads
theorem cold_zero (b : Nat → Nat) (g1 g2 : Nat) (w : World) (h : CrAt w 0 b g1 g2) : Calls Tryz.prog 19 #[.agg (pgL b).toArray, .agg ([.int .i64 0, .slice none 0 0]).toArray, .slice none 0 0] w (ColdTo w (0, 1, 11) (1, 0, 21) [(1, 11, 14), (2, 21, 14)]) :=
  cold_cross 0 true 0 (.inl rfl) vB ksB lkB prB lpB goesB rfl rfl rfl rfl rfl way_yes b g1 g2 w h
theorem cold_two (b : Nat → Nat) (g1 g2 : Nat) (w : World) (h : CrAt w 2 b g1 g2) : Calls Tryz.prog 19 #[.agg (pgL b).toArray, .agg ([.int .i64 2, .slice none 0 0]).toArray, .slice none 0 0] w (ColdTo w (0, 1, 11) (1, 2, 21) []) :=
  cold_cross 2 false 2 (.inr rfl) vC ksC lkC prC lpC goesC rfl rfl rfl rfl rfl way_no b g1 g2 w h
end Go.Proofs.YthhfakkfdohcpaaGreat
/- The law's own heads. No condition. -/
namespace Go.Proofs.YthhfakkfdohcpaaGreat
open Go.RowKit
set_option maxRecDepth 100000 in
set_option maxHeartbeats 4000000 in
theorem head_any (d : Dn) (w : World) : Calls Tryz.prog 22 #[.agg (dnL d).toArray] w fun e w' => e = .returned (.agg #[.int .i64 d.id, .int .i64 0, .int .i64 0, .slice none 0 0, .slice none 0 0]) ∧ Below w.heap.size w w' := by
  go_enter Tryz.func22, Tryz.ntmps22
  simp only [dnL, dfL]
  go_upto_region 1 with (fail)
  obtain ⟨W, hW⟩ : ∃ V, V = (w.alloc (.cells (dnL d).toArray 83)).alloc (.cells [.int .i64 0, .int .i64 0, .int .i64 0, .slice none 0 0, .slice none 0 0].toArray 86) := ⟨_, rfl⟩
  have hb2 := boxes2 w _ _ _ _ W hW
  have hW' := hW
  simp only [dnL, dfL] at hW'
  rw [← hW']
  clear hW hW'
  obtain ⟨b1, b2, hz, hbW⟩ := hb2
  have k0 : W.cell? ⟨w.heap.size, 0, none⟩ = some (.int .i64 d.id) := b1.1 0 _ rfl
  have k3 : W.cell? ⟨w.heap.size, 3, none⟩ = some (.int .i64 0) := b1.1 3 _ rfl
  have k4 : W.cell? ⟨w.heap.size, 4, none⟩ = some (.int .i64 0) := b1.1 4 _ rfl
  have k5 : W.cell? ⟨w.heap.size, 5, none⟩ = some (.slice none 0 0) := b1.1 5 _ rfl
  have k6 : W.cell? ⟨w.heap.size, 6, none⟩ = some (.slice none 0 0) := b1.1 6 _ rfl
  have B2 := hide b2
  have HbW := hide hbW
  have Hz := hide hz
  clear b1 b2 hz hbW
  go_wp2_with ((with_reducible refine wpList_store_in ?_ ?_ 86 (.tmp 2) (.tmp 13) ?_ (w.heap.size + 1) 0 [.int .i64 0, .int .i64 0, .int .i64 0, .slice none 0 0, .slice none 0 0] [.int .i64 d.id, .int .i64 0, .int .i64 0, .slice none 0 0, .slice none 0 0] [.int .i64 d.id, .int .i64 0, .int .i64 0, .slice none 0 0, .slice none 0 0] ?_ ?_ ?_ ?_ ?_ ?_ ?_ ?_); (focus rfl); (focus rfl); (focus rfl); (focus rfl); (focus rfl); (focus exact B2.out); (focus (show 0 + 5 ≤ 5; decide)); (focus rfl); (focus kernel_rfl); (focus (intro u hu; revert u; simp [Value.oneCell'])); intro V8 hV8 hT8; have HV8 := hide hV8; have HT8 := hide hT8; clear hV8 hT8)
  exact bodyPost_ret (res_box (cs := [.int .i64 d.id, .int .i64 0, .int .i64 0, .slice none 0 0, .slice none 0 0]) rfl rfl HV8.out Tryz.underlying86 rfl (by kernel_rfl)) rfl ⟨rfl, HbW.out.trans (HT8.out.below (by have := Hz.out; omega) (fun k hk => by omega))⟩
end Go.Proofs.YthhfakkfdohcpaaGreat
/- The law's own declarations. No condition. -/
namespace Go.Proofs.YthhfakkfdohcpaaGreat
open Go.RowKit
set_option maxRecDepth 100000 in
set_option maxHeartbeats 4000000 in
theorem declared_any (w : World) : Calls Tryz.prog 20 #[] w fun e w' => ∃ q : Nat → Nat, e = .returned (.agg (dcL q).toArray) ∧ Below w.heap.size w w' := by
  go_enter Tryz.func20, Tryz.ntmps20
  go_wp2
  exact bodyPost_ret (v := .agg #[.slice (some ⟨w.heap.size + 1, 0, none⟩) 2 2, .slice (some ⟨w.heap.size + 1 + 1, 0, none⟩) 2 2, .slice (some ⟨w.heap.size + 1 + 1 + 1, 0, none⟩) 1 1, .slice (some ⟨w.heap.size + 1 + 1 + 1 + 1, 0, none⟩) 3 3, .int .i64 3, .int .i64 3, .int .i64 2]) (by simp [results, Tryz.results20, go_sem]) rfl ⟨fun k => w.heap.size + 1 + k, rfl, (by repeat (first | with_reducible exact Below.refl _ _ | with_reducible refine Below.setCell ?_ (by simp <;> omega) _ | with_reducible refine below_drewN ?_ _ | with_reducible refine Below.drew ?_ | with_reducible refine Below.alloc ?_ (by simp <;> omega) _ | with_reducible refine Below.setCell ?_ (by simp <;> omega) _ | with_reducible refine Below.alloc ?_ (by simp <;> omega) _ | omega | (simp; done)))⟩
end Go.Proofs.YthhfakkfdohcpaaGreat
