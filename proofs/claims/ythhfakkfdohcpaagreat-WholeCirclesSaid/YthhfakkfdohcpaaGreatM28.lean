/- whole.Cold at the programs of the examples. No condition. -/
import Derived.Test.YthhfakkfdohcpaaGreatM21
import Derived.Test.YthhfakkfdohcpaaGreatM19
import Derived.Test.YthhfakkfdohcpaaGreatM24
namespace Go.Proofs.YthhfakkfdohcpaaGreat
open Go.RowKit Go.ChangeMaps Go.MapKept
def whZ : List Value := [.slice none 0 0, .slice none 0 0]
theorem whZ_one : ∀ u ∈ whZ, u.oneCell' = true := by
  intro u hu
  simp only [whZ, List.mem_cons, List.not_mem_nil, or_false] at hu
  rcases hu with rfl | rfl <;> rfl
/-- The pair that a proof holds. -/
def PrAt (W : World) (p : Pv) (q : Int × Int × Int) : Prop := BoxAt W p.gp [.int .i64 q.1, .int .i64 q.2.1, .int .i64 q.2.2]
/-- Both proofs as they lie. -/
structure PvsAt (W : World) (B g : Nat) (p1 p2 : Pv) (q1 q2 : Int × Int × Int) : Prop where
  box : BoxAt W g (pvL p1 ++ pvL p2)
  id1 : p1.id = 1
  id2 : p2.id = 2
  pr1 : PrAt W p1 q1
  pr2 : PrAt W p2 q2
  b0 : B ≤ g
  b1 : B ≤ p1.gp
  b2 : B ≤ p2.gp
/-- What Findings gives. -/
def FdTo (w : World) (fs : List (Int × Int × Int)) (e : Ending) (w' : World) : Prop := ∃ A c, e = .returned (.slice A fs.length c) ∧ (0 < fs.length → ∃ g, A = some ⟨g, 0, none⟩ ∧ w.heap.size ≤ g ∧ PrsAt w' g fs) ∧ Below w.heap.size w w'
theorem whR_one {A1 A2 : Option Addr} {n1 n2 c1 c2 : Nat} : ∀ u ∈ [Value.slice A1 n1 c1, Value.slice A2 n2 c2], u.oneCell' = true := by
  intro u hu
  simp only [List.mem_cons, List.not_mem_nil, or_false] at hu
  rcases hu with rfl | rfl <;> rfl
def ColdTo (w : World) (q1 q2 : Int × Int × Int) (fs : List (Int × Int × Int)) (e : Ending) (w' : World) : Prop :=
  ∃ g c p1 p2 A n c2, e = .returned (.tuple #[.agg #[.slice (some ⟨g, 0, none⟩) 2 c, .slice A n c2], .int .i64 0]) ∧ PvsAt w' w.heap.size g p1 p2 q1 q2 ∧ n = fs.length ∧ (0 < fs.length → ∃ h, A = some ⟨h, 0, none⟩ ∧ w.heap.size ≤ h ∧ PrsAt w' h fs) ∧ Below w.heap.size w w'
/-- What lies as it lay while the definitions are analysed. -/
structure ColdBox (b : Nat → Nat) (lv : Int) (w : World) (go n2 : Nat) (W : World) : Prop where
  sz : n2 ≤ W.heap.size
  p : BoxAt W w.heap.size (pgL b)
  s : BoxAt W (w.heap.size + 1) [.int .i64 lv, .slice none 0 0]
  r : BoxAt W (w.heap.size + 1 + 1) whZ
  o : BoxAt W go [.int .i64 1, .int .i64 2]
  bl : Below w.heap.size w W
theorem ColdBox.below {b : Nat → Nat} {lv : Int} {w W W' : World} {go n2 : Nat} (h : ColdBox b lv w go n2 W) (hb : Below W.heap.size W W') : ColdBox b lv w go n2 W' :=
  ⟨Nat.le_trans h.sz hb.size, h.p.below hb, h.s.below hb, h.r.below hb, h.o.below hb, h.bl.trans (hb.mono h.bl.size)⟩
theorem ColdBox.but {b : Nat → Nat} {lv : Int} {w W W' : World} {go g n2 : Nat} (h : ColdBox b lv w go n2 W) (hb : But (fun k => k = g) W W') (hg : w.heap.size + 3 ≤ g) (hn : go ≠ g) : ColdBox b lv w go n2 W' :=
  ⟨Nat.le_trans h.sz hb.size, h.p.but hb (by omega), h.s.but hb (by omega), h.r.but hb (by omega), h.o.but hb hn, h.bl.trans (hb.below h.bl.size (fun k hk => by omega))⟩
def ColdRel (w : World) (n2 : Nat) (q1 q2 : Int × Int × Int) : Nat → Value → World → Prop
  | 0, t, _ => t = .slice none 0 0
  | 1, t, W => ∃ g1 c1 p1, t = .slice (some ⟨g1, 0, none⟩) 1 c1 ∧ 1 ≤ c1 ∧ W.ownsRow (w.heap.size + 3) 61 16 t 1 (pvL p1) ∧ p1.id = 1 ∧ PrAt W p1 q1 ∧ p1.gp ≠ g1 ∧ BoxAt W g1 (pvL p1) ∧ w.heap.size + 3 ≤ g1 ∧ n2 ≤ g1 ∧ n2 ≤ p1.gp
  | _, t, W => ∃ g c p1 p2, t = .slice (some ⟨g, 0, none⟩) 2 c ∧ PvsAt W (w.heap.size + 3) g p1 p2 q1 q2
theorem PvsAt.below {W W' : World} {B g : Nat} {p1 p2 : Pv} {q1 q2 : Int × Int × Int} (h : PvsAt W B g p1 p2 q1 q2) (hb : Below W.heap.size W W') : PvsAt W' B g p1 p2 q1 q2 :=
  { h with box := h.box.below hb, pr1 := BoxAt.below h.pr1 hb, pr2 := BoxAt.below h.pr2 hb }
theorem PvsAt.mono {W : World} {B C g : Nat} {p1 p2 : Pv} {q1 q2 : Int × Int × Int} (h : PvsAt W B g p1 p2 q1 q2) (hc : C ≤ B) : PvsAt W C g p1 p2 q1 q2 :=
  { h with b0 := Nat.le_trans hc h.b0, b1 := Nat.le_trans hc h.b1, b2 := Nat.le_trans hc h.b2 }
theorem PvsAt.but {W W' : World} {B g r : Nat} {p1 p2 : Pv} {q1 q2 : Int × Int × Int} (h : PvsAt W B g p1 p2 q1 q2) (hb : But (fun k => k = r) W W') (hr : r < B) : PvsAt W' B g p1 p2 q1 q2 :=
  { h with box := h.box.but hb (by have := h.b0; omega), pr1 := BoxAt.but h.pr1 hb (by have := h.b1; omega), pr2 := BoxAt.but h.pr2 hb (by have := h.b2; omega) }
theorem cold_end {w W W9 V : World} {g c c2 : Nat} {A : Option Addr} {p1 p2 : Pv} {q1 q2 : Int × Int × Int} {fs : List (Int × Int × Int)} (hp : PvsAt W (w.heap.size + 3) g p1 p2 q1 q2) (hf : 0 < fs.length → ∃ h, A = some ⟨h, 0, none⟩ ∧ W.heap.size ≤ h ∧ PrsAt W9 h fs) (hb : Below w.heap.size w W) (hbF : Below W.heap.size W W9)
    (hT : But (fun k => k = w.heap.size + 1 + 1) W9 V) (hz : w.heap.size + 3 ≤ W.heap.size) : ColdTo w q1 q2 fs (.returned (.tuple #[.agg #[.slice (some ⟨g, 0, none⟩) 2 c, .slice A fs.length c2], .int .i64 0])) V :=
  ⟨g, c, p1, p2, A, fs.length, c2, rfl, ((hp.below hbF).but hT (by omega)).mono (by omega), rfl, fun h0 => by
    obtain ⟨h, rfl, h1, h2⟩ := hf h0
    exact ⟨h, rfl, by omega, BoxAt.but h2 hT (by omega)⟩, hb.trans ((hbF.mono hb.size).trans (hT.below (Nat.le_trans hb.size hbF.size) (fun k hk => by omega)))⟩
theorem boxes3c (w : World) (p c d : List Value) (tp tc td : TypeId) (X : World) (h : X = ((w.alloc (.cells p.toArray tp)).alloc (.cells c.toArray tc)).alloc (.cells d.toArray td)) :
    BoxAt X w.heap.size p ∧ BoxAt X (w.heap.size + 1) c ∧ BoxAt X (w.heap.size + 1 + 1) d ∧ X.heap.size = w.heap.size + 3 ∧ Below w.heap.size w X := boxes3 w p c d tp tc td X h
set_option maxRecDepth 100000 in
set_option maxHeartbeats 16000000 in
theorem cold_any (b : Nat → Nat) (lv : Int) (hl : lv = 0 ∨ lv = 2) (q1 q2 : Int × Int × Int) (fs : List (Int × Int × Int)) (lk1 lk2 : Int) (w : World)
    (horder : ∀ W, Below w.heap.size w W → Calls Tryz.prog 35 #[.agg (pgL b).toArray] W fun e w' => ∃ g c, e = .returned (.slice (some ⟨g, 0, none⟩) 2 c) ∧ BoxAt w' g [.int .i64 1, .int .i64 2] ∧ W.heap.size ≤ g ∧ Below W.heap.size W w')
    (hrun1 : ∀ W As ns cs, Below w.heap.size w W → Calls Tryz.prog 36 #[.agg (pgL b).toArray, .agg ([.int .i64 lv, .slice none 0 0]).toArray, .int .i64 1, .slice As ns cs] W (RunTo W 1 lk1 q1.1 q1.2.1 q1.2.2))
    (hrun2 : ∀ W As ns cs, Below w.heap.size w W → Calls Tryz.prog 36 #[.agg (pgL b).toArray, .agg ([.int .i64 lv, .slice none 0 0]).toArray, .int .i64 2, .slice As ns cs] W (RunTo W 2 lk2 q2.1 q2.2.1 q2.2.2))
    (hfind : ∀ W g c p1 p2, Below w.heap.size w W → PvsAt W (w.heap.size + 3) g p1 p2 q1 q2 → Calls Tryz.prog 41 #[.agg (pgL b).toArray, .slice (some ⟨g, 0, none⟩) 2 c, .slice none 0 0] W (FdTo W fs))
    (hh : BoxAt w (b 4) headL) :
    Calls Tryz.prog 19 #[.agg (pgL b).toArray, .agg ([.int .i64 lv, .slice none 0 0]).toArray, .slice none 0 0] w (ColdTo w q1 q2 fs) := by
  have Ho := hide horder; clear horder
  have Hr1 := hide hrun1; clear hrun1
  have Hr2 := hide hrun2; clear hrun2
  have Hf := hide hfind; clear hfind
  have HH := hide hh
  have HH0 := hide hh; clear hh
  go_enter Tryz.func19, Tryz.ntmps19
  simp only [pgL]
  go_upto_region 1 with (fail)
  obtain ⟨W, hW⟩ : ∃ V, V = ((w.alloc (.cells (pgL b).toArray 48)).alloc (.cells ([.int .i64 lv, .slice none 0 0]).toArray 52)).alloc (.cells whZ.toArray 35) := ⟨_, rfl⟩
  have hb3 := boxes3c w _ _ _ _ _ _ W hW
  have hW' := hW
  simp only [pgL, whZ] at hW'
  rw [← hW']
  clear hW hW'
  obtain ⟨b3, b4, b6, hz, hbW⟩ := hb3
  have H3 := hide b3
  have H4 := hide b4
  have H6 := hide b6
  have HbW := hide hbW
  have Hz := hide hz
  replace HH := hide (HH.out.below hbW)
  clear b3 b4 b6 hbW hz
  go_upto_region 4 with (first
    | ((with_reducible refine wpList_load_mid ?_ 48 (.tmp 3) ?_ (w.heap.size) (0) ?_ (pgL b) _ ?_ Tryz.underlying48 ?_ ?_ ?_); (focus rfl); (focus rfl); (focus rfl); (focus exact H3.out.whole); (focus rfl); (focus kernel_rfl); simp only [pgL])
    | ((with_reducible refine wpList_load_mid ?_ 52 (.tmp 4) ?_ ((w.heap.size + 1)) (0) ?_ [.int .i64 lv, .slice none 0 0] _ ?_ Tryz.underlying52 ?_ ?_ ?_); (focus rfl); (focus rfl); (focus rfl); (focus exact H4.out.whole); (focus rfl); (focus kernel_rfl))
    | (go_at_call 34; refine (right_any b lv hl _).mono ?_; rintro e w1 ⟨rfl, hb1⟩; have Hz1 : Hid (w.heap.size + 3 ≤ w1.heap.size) := hide (by have := hb1.size; have := Hz.out; omega); replace H3 := hide (H3.out.below hb1); replace H4 := hide (H4.out.below hb1); replace H6 := hide (H6.out.below hb1); replace HH := hide (HH.out.below hb1); replace HbW := hide (HbW.out.trans (hb1.mono HbW.out.size)); clear hb1))
  go_upto_block 0 with (first
    | ((with_reducible refine wpList_load_mid ?_ 48 (.tmp 3) ?_ (w.heap.size) (0) ?_ (pgL b) _ ?_ Tryz.underlying48 ?_ ?_ ?_); (focus rfl); (focus rfl); (focus rfl); (focus exact H3.out.whole); (focus rfl); (focus kernel_rfl); simp only [pgL])
    | (go_at_call 35; refine (Ho.out _ HbW.out).mono ?_; rintro e wo ⟨go, co, rfl, hbo, hgo, hb2⟩; replace H3 := hide (H3.out.below hb2); replace H4 := hide (H4.out.below hb2); replace H6 := hide (H6.out.below hb2); replace HH := hide (HH.out.below hb2); replace HbW := hide (HbW.out.trans (hb2.mono HbW.out.size)); clear hb2; have HO := hide hbo; have Hgo := hide hgo; clear hbo hgo))
  go_wp2_with fail
  have HC : Hid (ColdBox b lv w go wo.heap.size wo) := hide ⟨Nat.le_refl _, H3.out, H4.out, H6.out, HO.out, HbW.out⟩
  have Hgw : Hid (go < wo.heap.size ∧ w.heap.size + 3 ≤ go) := hide ⟨HO.out.2.2, by have := Hgo.out; have := Hz1.out; omega⟩
  clear H3 H4 H6 HO
  go_loopw [24, 8] (fun i t wr => ∃ j : Nat, j ≤ 2 ∧ i = .int .i64 j ∧ ColdRel w wo.heap.size q1 q2 j t wr ∧ ColdBox b lv w go wo.heap.size wr) (fun i _ _ => 2 - (intOf i).toNat)
  case atStart => exact ⟨0, by omega, rfl, rfl, HC.out⟩
  case round =>
  obtain ⟨j, hj, rfl, hR, hC⟩ := hrel
  clear HC
  have HC := hide hC
  clear hC HbW
  by_cases hlt : j < 2
  · rcases (show j = 0 ∨ j = 1 by omega) with rfl | rfl
    · obtain rfl := hR
      have q1o : wr.cell? ⟨go, 0, none⟩ = some (.int .i64 1) := HC.out.o.1 0 _ rfl
      go_upto_region 7 with (fail)
      clear q1o
      refine wp_region_held_drew (S := fun w' => BoxAt w' w.heap.size (pgL b) ∧ BoxAt w' (w.heap.size + 1) [.int .i64 lv, .slice none 0 0]) (by kernel_rfl) ?_ (fun hHeld => ?_)
      · exact ⟨HC.out.p.below (Below.refl _ _).drew, HC.out.s.below (Below.refl _ _).drew⟩
      generalize hw0 : World.drew wr = w0 at hHeld ⊢
      have HB0 : Hid (Below wr.heap.size wr w0) := hide (by rw [← hw0]; exact (Below.refl _ wr).drew)
      replace HC := hide (HC.out.below HB0.out)
      clear hw0
      refine take_as 0 (some 29) rfl rfl (by kernel_rfl) (by kernel_rfl) (by kernel_rfl) (fun _ _ _ h => h) (yieldsIf_load_mid (by rfl) 48 (.tmp 3) rfl w.heap.size 0 rfl (pgL b) _ (fun w2 hSw => hSw.1.whole) Tryz.underlying48 rfl (by kernel_rfl)) (by assumption) ?_
      try simp only [Act.put, List.setIfInBounds_toArray, List.set_cons_zero, List.set_cons_succ]
      refine take_as 1 (some 30) rfl rfl (by kernel_rfl) (by kernel_rfl) (by kernel_rfl) (fun _ _ _ h => h) (yieldsIf_load_mid (by rfl) 52 (.tmp 4) rfl (w.heap.size + 1) 0 rfl [.int .i64 lv, .slice none 0 0] _ (fun w2 hSw => hSw.2.whole) Tryz.underlying52 rfl (by kernel_rfl)) (by assumption) ?_
      try simp only [Act.put, List.setIfInBounds_toArray, List.set_cons_zero, List.set_cons_succ]
      refine take_as 2 (some 31) (v := ?_) rfl rfl (by kernel_rfl) (by kernel_rfl) (by kernel_rfl) (fun _ _ _ h => h) (Or.inl ⟨by rfl, ?_⟩) (by assumption) ?_
      rotate_left 1
      · intro w2 hSw
        go_simp
        try with_reducible rfl
      try simp only [Act.put, List.setIfInBounds_toArray, List.set_cons_zero, List.set_cons_succ]
      refine take_as 3 (some 32) rfl rfl (by kernel_rfl) (by kernel_rfl) (by kernel_rfl) (fun _ _ _ h => h) (yieldsIf_load_mid (by rfl) 48 (.tmp 3) rfl w.heap.size 0 rfl (pgL b) _ (fun w2 hSw => hSw.1.whole) Tryz.underlying48 rfl (by kernel_rfl)) (by assumption) ?_
      try simp only [Act.put, List.setIfInBounds_toArray, List.set_cons_zero, List.set_cons_succ]
      refine take_as 4 (some 33) (v := ?_) rfl rfl (by kernel_rfl) (by kernel_rfl) (by kernel_rfl) (fun _ _ _ h => h) (Or.inl ⟨by rfl, ?_⟩) (by assumption) ?_
      rotate_left 1
      · intro w2 hSw
        go_simp
        try with_reducible rfl
      try simp only [Act.put, List.setIfInBounds_toArray, List.set_cons_zero, List.set_cons_succ]
      refine take_as 5 (some 34) (v := ?_) rfl rfl (by kernel_rfl) (by kernel_rfl) (by kernel_rfl) (fun _ _ _ h => h) (Or.inl ⟨by rfl, ?_⟩) (by assumption) ?_
      rotate_left 1
      · intro w2 hSw
        go_simp
        try with_reducible rfl
      try simp only [Act.put, List.setIfInBounds_toArray, List.set_cons_zero, List.set_cons_succ]
      refine wpAnyH_ready (rs := [6, 11]) (by kernel_rfl) (by simp) ?_
      refine AllReadyH.cons rfl (fun K hK => ?_) ?_
      · go_simp
        refine (sums_any b (.slice none 0 0) none none (fun p hp => by cases hp) (fun p hp => by cases hp) _ (fun V hV => ⟨proof0 1 V, proof0 2 V⟩) (HH0.out.below HC.out.bl)).mono ?_
        rintro e w1 ⟨gS, cS, sa1, sa2, rfl, -, -, -, -, hb⟩
        replace HC := hide (HC.out.below hb)
        have H6d := trivial
        clear hb
        go_wp2_with fail
        refine hK.out _ _ ?_ (fun hHeld => ?_)
        · exact ⟨HC.out.p, HC.out.s⟩
        clear hK K
        try simp only [Act.put, List.setIfInBounds_toArray, List.set_cons_zero, List.set_cons_succ]
        refine wpAnyH_ready (rs := [7, 11]) (by kernel_rfl) (by simp) ?_
        refine AllReadyH.cons rfl (fun K hK => ?_) ?_
        · go_simp
          refine (Hr1.out _ _ _ _ HC.out.bl).mono ?_
          rintro e w2 ⟨Af, nf, cf, lo, gs, cq, gp, cp, rfl, hbp, hgp, hb⟩
          have Hgp : Hid (wo.heap.size ≤ gp) := hide (by have := HC.out.p.2.2; have := HC.out.sz; omega)
          replace HC := hide (HC.out.below hb)
          have HGP := hide hbp
          clear hb hbp hgp
          go_wp2_with fail
          refine hK.out _ _ ?_ (fun hHeld => ?_)
          · exact ⟨HC.out.p, HC.out.s⟩
          clear hK K
          try simp only [Act.put, List.setIfInBounds_toArray, List.set_cons_zero, List.set_cons_succ]
          refine take_as 8 (some 28) (v := ?_) rfl rfl (by kernel_rfl) (by kernel_rfl) (by kernel_rfl) (fun _ _ _ h => h) (Or.inl ⟨by rfl, ?_⟩) (by assumption) ?_
          rotate_left 1
          · intro w2 hSw
            go_simp
            try with_reducible rfl
          try simp only [Act.put, List.setIfInBounds_toArray, List.set_cons_zero, List.set_cons_succ]
          refine take_as 9 (some 37) (v := ?_) rfl rfl (by kernel_rfl) (by kernel_rfl) (by kernel_rfl) (fun _ _ _ h => h) (Or.inl ⟨by rfl, ?_⟩) (by assumption) ?_
          rotate_left 1
          · intro w2 hSw
            go_simp
            try with_reducible rfl
          try simp only [Act.put, List.setIfInBounds_toArray, List.set_cons_zero, List.set_cons_succ]
          refine take_as 10 (some 38) (v := ?_) rfl rfl (by kernel_rfl) (by kernel_rfl) (by kernel_rfl) (fun _ _ _ h => h) (Or.inl ⟨by rfl, ?_⟩) (by assumption) ?_
          rotate_left 1
          · intro w2 hSw
            go_simp
            try with_reducible rfl
          try simp only [Act.put, List.setIfInBounds_toArray, List.set_cons_zero, List.set_cons_succ]
          refine wpAnyH_ready (rs := [11]) (by kernel_rfl) (by simp) ?_
          refine AllReadyH.cons rfl (fun K hK => ?_) ?_
          · go_simp
            refine name_world (fun w3 hwn => ?_)
            have hb : Below w2.heap.size w2 w3 := by rw [hwn]; exact (Below.refl _ _).alloc (Nat.le_refl _) _
            have hX : BoxAt w3 w2.heap.size pfZ := by rw [hwn]; exact BoxAt.new _ _ _
            clear hwn
            obtain ⟨g11, hq11⟩ : ∃ q, q = w2.heap.size := ⟨_, rfl⟩
            rw [← hq11] at hX ⊢
            have Hg11 : Hid (wo.heap.size ≤ g11) := hide (by have := HC.out.sz; omega)
            have HnX : Hid (gp ≠ g11) := hide (by have := BoxAt.lt0 HGP.out; omega)
            replace HGP := hide (BoxAt.below HGP.out hb)
            replace HC := hide (HC.out.below hb)
            have HX := hide hX
            clear hb hX hq11
            refine hK.out _ _ ?_ (fun hHeld => ?_)
            · exact ⟨HC.out.p, HC.out.s⟩
            clear hK K
            try simp only [Act.put, List.setIfInBounds_toArray, List.set_cons_zero, List.set_cons_succ]
            refine wpAnyH_ready (rs := [12]) (by kernel_rfl) (by simp) ?_
            refine AllReadyH.cons rfl (fun K hK => ?_) ?_
            · obtain ⟨p, hp⟩ : ∃ p : Pv, p = ⟨1, lk1, lo, Af, nf, cf, gs, cq, gp, cp⟩ := ⟨_, rfl⟩
              have hpv : pfL 1 (.slice Af nf cf) (smL 1 lk1 lo (.slice (some ⟨gs, 0, none⟩) 1 cq) 4) (.slice none 0 0) (.slice (some ⟨gp, 0, none⟩) 1 cp) (.slice none 0 0) = pvL p := by rw [hp]; rfl
              have hpg : p.gp = gp := by rw [hp]
              have hpi : p.id = 1 := by rw [hp]
              refine step_store_as rfl rfl 61 (.tmp 11) (.tmp 37) rfl g11 0 (pvL p).toArray rfl (by rw [← hpv]; rfl) (HX.out.there 0 _ (by show 0 + 16 ≤ 16; decide)) (by kernel_rfl) (all_oneCell_toArray (pvL_one p)) ?_
              refine after_put 0 (pvL p) _ HX.out (by show 0 + 16 ≤ 16; decide) rfl (fun w4 hV hT => ?_)
              clear hp hpv
              replace HX := hide hV
              replace HGP := hide (BoxAt.but HGP.out hT (by have := HnX.out; omega))
              replace HC := hide (HC.out.but hT (by have h1 := Hg11.out; have h2 := Hgw.out; omega) (by have h1 := Hg11.out; have h2 := Hgw.out; omega))
              clear hV hT
              refine hK.out _ _ ?_ (fun hHeld => ?_)
              · exact ⟨HC.out.p, HC.out.s⟩
              clear hK K
              try simp only [Act.put, List.setIfInBounds_toArray, List.set_cons_zero, List.set_cons_succ]
              refine take_as 13 (some 12) (v := ?_) rfl rfl (by kernel_rfl) (by kernel_rfl) (by kernel_rfl) (fun _ _ _ h => h) (Or.inl ⟨by rfl, ?_⟩) (by assumption) ?_
              rotate_left 1
              · intro w2 hSw
                go_simp
                try with_reducible rfl
              try simp only [Act.put, List.setIfInBounds_toArray, List.set_cons_zero, List.set_cons_succ]
              refine wpAnyH_done (by kernel_rfl) ?_ _
              go_wp2_with (first
                | (go_at_call 38; refine (bs0 _ _ _).mono ?_; rintro e w7 ⟨rfl, rfl⟩)
                | ((with_reducible refine wpList_load_mid ?_ 61 (.tmp 11) ?_ (g11) (0) ?_ (pvL p) _ ?_ Tryz.underlying61 ?_ ?_ ?_); (focus rfl); (focus rfl); (focus rfl); (focus exact HX.out.whole); (focus rfl); (focus kernel_rfl))
                | ((with_reducible refine wpList_buildSlice_one ?_ ?_ 32 61 16 208 elemProof (.tmp 51) ?_ (.agg ((pvL p)).toArray) ((pvL p)) ?_ ?_ ?_ ?_ ?_); (focus rfl); (focus rfl); (focus rfl); (focus rfl); (focus rfl); (focus rfl); (focus decide); intro gn Vb hVb hgVb hbVb; have HN := hide hVb; replace HGP := hide (BoxAt.below HGP.out hbVb); replace HC := hide (HC.out.below hbVb); clear hVb hgVb hbVb)
                | (go_at_call 40; refine (insert_first (w.heap.size + 3) p gn _ (by have := HC.out.bl.size; have h3 := HC.out.r.2.2; omega) HN.out).mono ?_; rintro e w8 ⟨gr, cr, rfl, hap⟩; have HA := hide hap; clear hap))
              have hb8 : Below Vb.heap.size Vb w8 := HA.out.but.below (Nat.le_refl _) (fun k hk => by simp [Value.ownBlock] at hk)
              have HC8 := hide (HC.out.below hb8)
              have HP8 := hide (BoxAt.below HGP.out hb8)
              have Hgr : Hid (gp < gr ∧ w.heap.size + 3 ≤ gr ∧ wo.heap.size ≤ gr) := hide ⟨by have h1 := BoxAt.lt0 HGP.out; exact HA.out.new.elim (fun h => by simp [Value.ownBlock] at h) (fun h => by omega), HA.out.base, by have h1 := HC.out.sz; exact HA.out.new.elim (fun h => by simp [Value.ownBlock] at h) (fun h => by omega)⟩
              clear hb8
              go_roundw
              case rel => exact ⟨1, by omega, rfl, ⟨gr, cr, p, rfl, HA.out.le, HA.out.own, hpi, by unfold PrAt; rw [hpg]; exact HP8.out, by have := Hgr.out; omega, HA.out.box, Hgr.out.2.1, Hgr.out.2.2, by rw [hpg]; exact Hgp.out⟩, HC8.out⟩
              case measure => simp [intOf]
            exact AllReadyH.nil
          exact AllReadyH.nil
        refine AllReadyH.cons rfl (fun K hK => ?_) ?_
        · go_simp
          refine name_world (fun w2 hwn => ?_)
          have hb : Below w1.heap.size w1 w2 := by rw [hwn]; exact (Below.refl _ _).alloc (Nat.le_refl _) _
          have hX : BoxAt w2 w1.heap.size pfZ := by rw [hwn]; exact BoxAt.new _ _ _
          clear hwn
          obtain ⟨g11, hq11⟩ : ∃ q, q = w1.heap.size := ⟨_, rfl⟩
          rw [← hq11] at hX ⊢
          have Hg11 : Hid (wo.heap.size ≤ g11) := hide (by have := HC.out.sz; omega)
          replace HC := hide (HC.out.below hb)
          have HX := hide hX
          clear hb hX hq11
          refine hK.out _ _ ?_ (fun hHeld => ?_)
          · exact ⟨HC.out.p, HC.out.s⟩
          clear hK K
          try simp only [Act.put, List.setIfInBounds_toArray, List.set_cons_zero, List.set_cons_succ]
          refine wpAnyH_ready (rs := [7]) (by kernel_rfl) (by simp) ?_
          refine AllReadyH.cons rfl (fun K hK => ?_) ?_
          · go_simp
            refine (Hr1.out _ _ _ _ HC.out.bl).mono ?_
            rintro e w3 ⟨Af, nf, cf, lo, gs, cq, gp, cp, rfl, hbp, hgp, hb⟩
            have HnX : Hid (gp ≠ g11) := hide (by have := HX.out.2.2; omega)
            have Hgp : Hid (wo.heap.size ≤ gp) := hide (by have := HC.out.p.2.2; have := HC.out.sz; omega)
            replace HX := hide (HX.out.below hb)
            replace HC := hide (HC.out.below hb)
            have HGP := hide hbp
            clear hb hbp hgp
            go_wp2_with fail
            refine hK.out _ _ ?_ (fun hHeld => ?_)
            · exact ⟨HC.out.p, HC.out.s⟩
            clear hK K
            try simp only [Act.put, List.setIfInBounds_toArray, List.set_cons_zero, List.set_cons_succ]
            refine take_as 8 (some 28) (v := ?_) rfl rfl (by kernel_rfl) (by kernel_rfl) (by kernel_rfl) (fun _ _ _ h => h) (Or.inl ⟨by rfl, ?_⟩) (by assumption) ?_
            rotate_left 1
            · intro w2 hSw
              go_simp
              try with_reducible rfl
            try simp only [Act.put, List.setIfInBounds_toArray, List.set_cons_zero, List.set_cons_succ]
            refine take_as 9 (some 37) (v := ?_) rfl rfl (by kernel_rfl) (by kernel_rfl) (by kernel_rfl) (fun _ _ _ h => h) (Or.inl ⟨by rfl, ?_⟩) (by assumption) ?_
            rotate_left 1
            · intro w2 hSw
              go_simp
              try with_reducible rfl
            try simp only [Act.put, List.setIfInBounds_toArray, List.set_cons_zero, List.set_cons_succ]
            refine take_as 10 (some 38) (v := ?_) rfl rfl (by kernel_rfl) (by kernel_rfl) (by kernel_rfl) (fun _ _ _ h => h) (Or.inl ⟨by rfl, ?_⟩) (by assumption) ?_
            rotate_left 1
            · intro w2 hSw
              go_simp
              try with_reducible rfl
            try simp only [Act.put, List.setIfInBounds_toArray, List.set_cons_zero, List.set_cons_succ]
            refine wpAnyH_ready (rs := [12]) (by kernel_rfl) (by simp) ?_
            refine AllReadyH.cons rfl (fun K hK => ?_) ?_
            · obtain ⟨p, hp⟩ : ∃ p : Pv, p = ⟨1, lk1, lo, Af, nf, cf, gs, cq, gp, cp⟩ := ⟨_, rfl⟩
              have hpv : pfL 1 (.slice Af nf cf) (smL 1 lk1 lo (.slice (some ⟨gs, 0, none⟩) 1 cq) 4) (.slice none 0 0) (.slice (some ⟨gp, 0, none⟩) 1 cp) (.slice none 0 0) = pvL p := by rw [hp]; rfl
              have hpg : p.gp = gp := by rw [hp]
              have hpi : p.id = 1 := by rw [hp]
              refine step_store_as rfl rfl 61 (.tmp 11) (.tmp 37) rfl g11 0 (pvL p).toArray rfl (by rw [← hpv]; rfl) (HX.out.there 0 _ (by show 0 + 16 ≤ 16; decide)) (by kernel_rfl) (all_oneCell_toArray (pvL_one p)) ?_
              refine after_put 0 (pvL p) _ HX.out (by show 0 + 16 ≤ 16; decide) rfl (fun w4 hV hT => ?_)
              clear hp hpv
              replace HX := hide hV
              replace HGP := hide (BoxAt.but HGP.out hT (by have := HnX.out; omega))
              replace HC := hide (HC.out.but hT (by have h1 := Hg11.out; have h2 := Hgw.out; omega) (by have h1 := Hg11.out; have h2 := Hgw.out; omega))
              clear hV hT
              refine hK.out _ _ ?_ (fun hHeld => ?_)
              · exact ⟨HC.out.p, HC.out.s⟩
              clear hK K
              try simp only [Act.put, List.setIfInBounds_toArray, List.set_cons_zero, List.set_cons_succ]
              refine take_as 13 (some 12) (v := ?_) rfl rfl (by kernel_rfl) (by kernel_rfl) (by kernel_rfl) (fun _ _ _ h => h) (Or.inl ⟨by rfl, ?_⟩) (by assumption) ?_
              rotate_left 1
              · intro w2 hSw
                go_simp
                try with_reducible rfl
              try simp only [Act.put, List.setIfInBounds_toArray, List.set_cons_zero, List.set_cons_succ]
              refine wpAnyH_done (by kernel_rfl) ?_ _
              go_wp2_with (first
                | (go_at_call 38; refine (bs0 _ _ _).mono ?_; rintro e w7 ⟨rfl, rfl⟩)
                | ((with_reducible refine wpList_load_mid ?_ 61 (.tmp 11) ?_ (g11) (0) ?_ (pvL p) _ ?_ Tryz.underlying61 ?_ ?_ ?_); (focus rfl); (focus rfl); (focus rfl); (focus exact HX.out.whole); (focus rfl); (focus kernel_rfl))
                | ((with_reducible refine wpList_buildSlice_one ?_ ?_ 32 61 16 208 elemProof (.tmp 51) ?_ (.agg ((pvL p)).toArray) ((pvL p)) ?_ ?_ ?_ ?_ ?_); (focus rfl); (focus rfl); (focus rfl); (focus rfl); (focus rfl); (focus rfl); (focus decide); intro gn Vb hVb hgVb hbVb; have HN := hide hVb; replace HGP := hide (BoxAt.below HGP.out hbVb); replace HC := hide (HC.out.below hbVb); clear hVb hgVb hbVb)
                | (go_at_call 40; refine (insert_first (w.heap.size + 3) p gn _ (by have := HC.out.bl.size; have h3 := HC.out.r.2.2; omega) HN.out).mono ?_; rintro e w8 ⟨gr, cr, rfl, hap⟩; have HA := hide hap; clear hap))
              have hb8 : Below Vb.heap.size Vb w8 := HA.out.but.below (Nat.le_refl _) (fun k hk => by simp [Value.ownBlock] at hk)
              have HC8 := hide (HC.out.below hb8)
              have HP8 := hide (BoxAt.below HGP.out hb8)
              have Hgr : Hid (gp < gr ∧ w.heap.size + 3 ≤ gr ∧ wo.heap.size ≤ gr) := hide ⟨by have h1 := BoxAt.lt0 HGP.out; exact HA.out.new.elim (fun h => by simp [Value.ownBlock] at h) (fun h => by omega), HA.out.base, by have h1 := HC.out.sz; exact HA.out.new.elim (fun h => by simp [Value.ownBlock] at h) (fun h => by omega)⟩
              clear hb8
              go_roundw
              case rel => exact ⟨1, by omega, rfl, ⟨gr, cr, p, rfl, HA.out.le, HA.out.own, hpi, by unfold PrAt; rw [hpg]; exact HP8.out, by have := Hgr.out; omega, HA.out.box, Hgr.out.2.1, Hgr.out.2.2, by rw [hpg]; exact Hgp.out⟩, HC8.out⟩
              case measure => simp [intOf]
            exact AllReadyH.nil
          exact AllReadyH.nil
        exact AllReadyH.nil
      refine AllReadyH.cons rfl (fun K hK => ?_) ?_
      · go_simp
        refine name_world (fun w1 hwn => ?_)
        have hb : Below w0.heap.size w0 w1 := by rw [hwn]; exact (Below.refl _ _).alloc (Nat.le_refl _) _
        have hX : BoxAt w1 w0.heap.size pfZ := by rw [hwn]; exact BoxAt.new _ _ _
        clear hwn
        obtain ⟨g11, hq11⟩ : ∃ q, q = w0.heap.size := ⟨_, rfl⟩
        rw [← hq11] at hX ⊢
        have Hg11 : Hid (wo.heap.size ≤ g11) := hide (by have := HC.out.sz; omega)
        replace HC := hide (HC.out.below hb)
        have HX := hide hX
        clear hb hX hq11
        refine hK.out _ _ ?_ (fun hHeld => ?_)
        · exact ⟨HC.out.p, HC.out.s⟩
        clear hK K
        try simp only [Act.put, List.setIfInBounds_toArray, List.set_cons_zero, List.set_cons_succ]
        refine wpAnyH_ready (rs := [6]) (by kernel_rfl) (by simp) ?_
        refine AllReadyH.cons rfl (fun K hK => ?_) ?_
        · go_simp
          refine (sums_any b (.slice none 0 0) none none (fun p hp => by cases hp) (fun p hp => by cases hp) _ (fun V hV => ⟨proof0 1 V, proof0 2 V⟩) (HH0.out.below HC.out.bl)).mono ?_
          rintro e w2 ⟨gS, cS, sa1, sa2, rfl, -, -, -, -, hb⟩
          replace HX := hide (HX.out.below hb)
          replace HC := hide (HC.out.below hb)
          have H6d := trivial
          clear hb
          go_wp2_with fail
          refine hK.out _ _ ?_ (fun hHeld => ?_)
          · exact ⟨HC.out.p, HC.out.s⟩
          clear hK K
          try simp only [Act.put, List.setIfInBounds_toArray, List.set_cons_zero, List.set_cons_succ]
          refine wpAnyH_ready (rs := [7]) (by kernel_rfl) (by simp) ?_
          refine AllReadyH.cons rfl (fun K hK => ?_) ?_
          · go_simp
            refine (Hr1.out _ _ _ _ HC.out.bl).mono ?_
            rintro e w3 ⟨Af, nf, cf, lo, gs, cq, gp, cp, rfl, hbp, hgp, hb⟩
            have HnX : Hid (gp ≠ g11) := hide (by have := HX.out.2.2; omega)
            have Hgp : Hid (wo.heap.size ≤ gp) := hide (by have := HC.out.p.2.2; have := HC.out.sz; omega)
            replace HX := hide (HX.out.below hb)
            replace HC := hide (HC.out.below hb)
            have HGP := hide hbp
            clear hb hbp hgp
            go_wp2_with fail
            refine hK.out _ _ ?_ (fun hHeld => ?_)
            · exact ⟨HC.out.p, HC.out.s⟩
            clear hK K
            try simp only [Act.put, List.setIfInBounds_toArray, List.set_cons_zero, List.set_cons_succ]
            refine take_as 8 (some 28) (v := ?_) rfl rfl (by kernel_rfl) (by kernel_rfl) (by kernel_rfl) (fun _ _ _ h => h) (Or.inl ⟨by rfl, ?_⟩) (by assumption) ?_
            rotate_left 1
            · intro w2 hSw
              go_simp
              try with_reducible rfl
            try simp only [Act.put, List.setIfInBounds_toArray, List.set_cons_zero, List.set_cons_succ]
            refine take_as 9 (some 37) (v := ?_) rfl rfl (by kernel_rfl) (by kernel_rfl) (by kernel_rfl) (fun _ _ _ h => h) (Or.inl ⟨by rfl, ?_⟩) (by assumption) ?_
            rotate_left 1
            · intro w2 hSw
              go_simp
              try with_reducible rfl
            try simp only [Act.put, List.setIfInBounds_toArray, List.set_cons_zero, List.set_cons_succ]
            refine take_as 10 (some 38) (v := ?_) rfl rfl (by kernel_rfl) (by kernel_rfl) (by kernel_rfl) (fun _ _ _ h => h) (Or.inl ⟨by rfl, ?_⟩) (by assumption) ?_
            rotate_left 1
            · intro w2 hSw
              go_simp
              try with_reducible rfl
            try simp only [Act.put, List.setIfInBounds_toArray, List.set_cons_zero, List.set_cons_succ]
            refine wpAnyH_ready (rs := [12]) (by kernel_rfl) (by simp) ?_
            refine AllReadyH.cons rfl (fun K hK => ?_) ?_
            · obtain ⟨p, hp⟩ : ∃ p : Pv, p = ⟨1, lk1, lo, Af, nf, cf, gs, cq, gp, cp⟩ := ⟨_, rfl⟩
              have hpv : pfL 1 (.slice Af nf cf) (smL 1 lk1 lo (.slice (some ⟨gs, 0, none⟩) 1 cq) 4) (.slice none 0 0) (.slice (some ⟨gp, 0, none⟩) 1 cp) (.slice none 0 0) = pvL p := by rw [hp]; rfl
              have hpg : p.gp = gp := by rw [hp]
              have hpi : p.id = 1 := by rw [hp]
              refine step_store_as rfl rfl 61 (.tmp 11) (.tmp 37) rfl g11 0 (pvL p).toArray rfl (by rw [← hpv]; rfl) (HX.out.there 0 _ (by show 0 + 16 ≤ 16; decide)) (by kernel_rfl) (all_oneCell_toArray (pvL_one p)) ?_
              refine after_put 0 (pvL p) _ HX.out (by show 0 + 16 ≤ 16; decide) rfl (fun w4 hV hT => ?_)
              clear hp hpv
              replace HX := hide hV
              replace HGP := hide (BoxAt.but HGP.out hT (by have := HnX.out; omega))
              replace HC := hide (HC.out.but hT (by have h1 := Hg11.out; have h2 := Hgw.out; omega) (by have h1 := Hg11.out; have h2 := Hgw.out; omega))
              clear hV hT
              refine hK.out _ _ ?_ (fun hHeld => ?_)
              · exact ⟨HC.out.p, HC.out.s⟩
              clear hK K
              try simp only [Act.put, List.setIfInBounds_toArray, List.set_cons_zero, List.set_cons_succ]
              refine take_as 13 (some 12) (v := ?_) rfl rfl (by kernel_rfl) (by kernel_rfl) (by kernel_rfl) (fun _ _ _ h => h) (Or.inl ⟨by rfl, ?_⟩) (by assumption) ?_
              rotate_left 1
              · intro w2 hSw
                go_simp
                try with_reducible rfl
              try simp only [Act.put, List.setIfInBounds_toArray, List.set_cons_zero, List.set_cons_succ]
              refine wpAnyH_done (by kernel_rfl) ?_ _
              go_wp2_with (first
                | (go_at_call 38; refine (bs0 _ _ _).mono ?_; rintro e w7 ⟨rfl, rfl⟩)
                | ((with_reducible refine wpList_load_mid ?_ 61 (.tmp 11) ?_ (g11) (0) ?_ (pvL p) _ ?_ Tryz.underlying61 ?_ ?_ ?_); (focus rfl); (focus rfl); (focus rfl); (focus exact HX.out.whole); (focus rfl); (focus kernel_rfl))
                | ((with_reducible refine wpList_buildSlice_one ?_ ?_ 32 61 16 208 elemProof (.tmp 51) ?_ (.agg ((pvL p)).toArray) ((pvL p)) ?_ ?_ ?_ ?_ ?_); (focus rfl); (focus rfl); (focus rfl); (focus rfl); (focus rfl); (focus rfl); (focus decide); intro gn Vb hVb hgVb hbVb; have HN := hide hVb; replace HGP := hide (BoxAt.below HGP.out hbVb); replace HC := hide (HC.out.below hbVb); clear hVb hgVb hbVb)
                | (go_at_call 40; refine (insert_first (w.heap.size + 3) p gn _ (by have := HC.out.bl.size; have h3 := HC.out.r.2.2; omega) HN.out).mono ?_; rintro e w8 ⟨gr, cr, rfl, hap⟩; have HA := hide hap; clear hap))
              have hb8 : Below Vb.heap.size Vb w8 := HA.out.but.below (Nat.le_refl _) (fun k hk => by simp [Value.ownBlock] at hk)
              have HC8 := hide (HC.out.below hb8)
              have HP8 := hide (BoxAt.below HGP.out hb8)
              have Hgr : Hid (gp < gr ∧ w.heap.size + 3 ≤ gr ∧ wo.heap.size ≤ gr) := hide ⟨by have h1 := BoxAt.lt0 HGP.out; exact HA.out.new.elim (fun h => by simp [Value.ownBlock] at h) (fun h => by omega), HA.out.base, by have h1 := HC.out.sz; exact HA.out.new.elim (fun h => by simp [Value.ownBlock] at h) (fun h => by omega)⟩
              clear hb8
              go_roundw
              case rel => exact ⟨1, by omega, rfl, ⟨gr, cr, p, rfl, HA.out.le, HA.out.own, hpi, by unfold PrAt; rw [hpg]; exact HP8.out, by have := Hgr.out; omega, HA.out.box, Hgr.out.2.1, Hgr.out.2.2, by rw [hpg]; exact Hgp.out⟩, HC8.out⟩
              case measure => simp [intOf]
            exact AllReadyH.nil
          exact AllReadyH.nil
        exact AllReadyH.nil
      exact AllReadyH.nil
    · obtain ⟨g1, c1, p1, rfl, hc1, hown, hid1, hpr1, hne1, hbx1, hg1, hn1, hn2⟩ := hR
      have HL := hide hown
      have HPr := hide hpr1
      have HBx := hide hbx1
      clear hown hpr1 hbx1
      have q1o : wr.cell? ⟨go, 1, none⟩ = some (.int .i64 2) := HC.out.o.1 1 _ rfl
      go_upto_region 7 with (fail)
      clear q1o
      refine wp_region_held_drew (S := fun w' => BoxAt w' w.heap.size (pgL b) ∧ BoxAt w' (w.heap.size + 1) [.int .i64 lv, .slice none 0 0]) (by kernel_rfl) ?_ (fun hHeld => ?_)
      · exact ⟨HC.out.p.below (Below.refl _ _).drew, HC.out.s.below (Below.refl _ _).drew⟩
      generalize hw0 : World.drew wr = w0 at hHeld ⊢
      have HB0 : Hid (Below wr.heap.size wr w0) := hide (by rw [← hw0]; exact (Below.refl _ wr).drew)
      replace HC := hide (HC.out.below HB0.out)
      replace HPr := hide (BoxAt.below HPr.out HB0.out)
      replace HBx := hide (HBx.out.below HB0.out)
      replace HL := hide (own_below HL.out HB0.out)
      clear hw0
      refine take_as 0 (some 29) rfl rfl (by kernel_rfl) (by kernel_rfl) (by kernel_rfl) (fun _ _ _ h => h) (yieldsIf_load_mid (by rfl) 48 (.tmp 3) rfl w.heap.size 0 rfl (pgL b) _ (fun w2 hSw => hSw.1.whole) Tryz.underlying48 rfl (by kernel_rfl)) (by assumption) ?_
      try simp only [Act.put, List.setIfInBounds_toArray, List.set_cons_zero, List.set_cons_succ]
      refine take_as 1 (some 30) rfl rfl (by kernel_rfl) (by kernel_rfl) (by kernel_rfl) (fun _ _ _ h => h) (yieldsIf_load_mid (by rfl) 52 (.tmp 4) rfl (w.heap.size + 1) 0 rfl [.int .i64 lv, .slice none 0 0] _ (fun w2 hSw => hSw.2.whole) Tryz.underlying52 rfl (by kernel_rfl)) (by assumption) ?_
      try simp only [Act.put, List.setIfInBounds_toArray, List.set_cons_zero, List.set_cons_succ]
      refine take_as 2 (some 31) (v := ?_) rfl rfl (by kernel_rfl) (by kernel_rfl) (by kernel_rfl) (fun _ _ _ h => h) (Or.inl ⟨by rfl, ?_⟩) (by assumption) ?_
      rotate_left 1
      · intro w2 hSw
        go_simp
        try with_reducible rfl
      try simp only [Act.put, List.setIfInBounds_toArray, List.set_cons_zero, List.set_cons_succ]
      refine take_as 3 (some 32) rfl rfl (by kernel_rfl) (by kernel_rfl) (by kernel_rfl) (fun _ _ _ h => h) (yieldsIf_load_mid (by rfl) 48 (.tmp 3) rfl w.heap.size 0 rfl (pgL b) _ (fun w2 hSw => hSw.1.whole) Tryz.underlying48 rfl (by kernel_rfl)) (by assumption) ?_
      try simp only [Act.put, List.setIfInBounds_toArray, List.set_cons_zero, List.set_cons_succ]
      refine take_as 4 (some 33) (v := ?_) rfl rfl (by kernel_rfl) (by kernel_rfl) (by kernel_rfl) (fun _ _ _ h => h) (Or.inl ⟨by rfl, ?_⟩) (by assumption) ?_
      rotate_left 1
      · intro w2 hSw
        go_simp
        try with_reducible rfl
      try simp only [Act.put, List.setIfInBounds_toArray, List.set_cons_zero, List.set_cons_succ]
      refine take_as 5 (some 34) (v := ?_) rfl rfl (by kernel_rfl) (by kernel_rfl) (by kernel_rfl) (fun _ _ _ h => h) (Or.inl ⟨by rfl, ?_⟩) (by assumption) ?_
      rotate_left 1
      · intro w2 hSw
        go_simp
        try with_reducible rfl
      try simp only [Act.put, List.setIfInBounds_toArray, List.set_cons_zero, List.set_cons_succ]
      refine wpAnyH_ready (rs := [6, 11]) (by kernel_rfl) (by simp) ?_
      refine AllReadyH.cons rfl (fun K hK => ?_) ?_
      · go_simp
        refine (sums_any b (.slice (some ⟨g1, 0, none⟩) 1 c1) (some p1) none (fun p hp => by cases hp; exact hid1) (fun p hp => by cases hp) _ (fun V hV => ⟨proof1 p1 hid1 g1 c1 1 (.inl rfl) V (HBx.out.below hV), proof1 p1 hid1 g1 c1 2 (.inr rfl) V (HBx.out.below hV)⟩) (HH0.out.below HC.out.bl)).mono ?_
        rintro e w1 ⟨gS, cS, sa1, sa2, rfl, -, -, -, -, hb⟩
        replace HC := hide (HC.out.below hb)
        replace HPr := hide (HPr.out.below hb)
        replace HBx := hide (HBx.out.below hb)
        replace HL := hide (own_below HL.out hb)
        have H6d := trivial
        clear hb
        go_wp2_with fail
        refine hK.out _ _ ?_ (fun hHeld => ?_)
        · exact ⟨HC.out.p, HC.out.s⟩
        clear hK K
        try simp only [Act.put, List.setIfInBounds_toArray, List.set_cons_zero, List.set_cons_succ]
        refine wpAnyH_ready (rs := [7, 11]) (by kernel_rfl) (by simp) ?_
        refine AllReadyH.cons rfl (fun K hK => ?_) ?_
        · go_simp
          refine (Hr2.out _ _ _ _ HC.out.bl).mono ?_
          rintro e w2 ⟨Af, nf, cf, lo, gs, cq, gp, cp, rfl, hbp, hgp, hb⟩
          have Hgp : Hid (wo.heap.size ≤ gp ∧ p1.gp ≠ gp ∧ g1 ≠ gp) := hide (by have h1 := HPr.out.2.2; have h2 := HBx.out.2.2; have := HC.out.sz; omega)
          replace HC := hide (HC.out.below hb)
          replace HPr := hide (HPr.out.below hb)
          replace HBx := hide (HBx.out.below hb)
          replace HL := hide (own_below HL.out hb)
          have HGP := hide hbp
          clear hb hbp hgp
          go_wp2_with fail
          refine hK.out _ _ ?_ (fun hHeld => ?_)
          · exact ⟨HC.out.p, HC.out.s⟩
          clear hK K
          try simp only [Act.put, List.setIfInBounds_toArray, List.set_cons_zero, List.set_cons_succ]
          refine take_as 8 (some 28) (v := ?_) rfl rfl (by kernel_rfl) (by kernel_rfl) (by kernel_rfl) (fun _ _ _ h => h) (Or.inl ⟨by rfl, ?_⟩) (by assumption) ?_
          rotate_left 1
          · intro w2 hSw
            go_simp
            try with_reducible rfl
          try simp only [Act.put, List.setIfInBounds_toArray, List.set_cons_zero, List.set_cons_succ]
          refine take_as 9 (some 37) (v := ?_) rfl rfl (by kernel_rfl) (by kernel_rfl) (by kernel_rfl) (fun _ _ _ h => h) (Or.inl ⟨by rfl, ?_⟩) (by assumption) ?_
          rotate_left 1
          · intro w2 hSw
            go_simp
            try with_reducible rfl
          try simp only [Act.put, List.setIfInBounds_toArray, List.set_cons_zero, List.set_cons_succ]
          refine take_as 10 (some 38) (v := ?_) rfl rfl (by kernel_rfl) (by kernel_rfl) (by kernel_rfl) (fun _ _ _ h => h) (Or.inl ⟨by rfl, ?_⟩) (by assumption) ?_
          rotate_left 1
          · intro w2 hSw
            go_simp
            try with_reducible rfl
          try simp only [Act.put, List.setIfInBounds_toArray, List.set_cons_zero, List.set_cons_succ]
          refine wpAnyH_ready (rs := [11]) (by kernel_rfl) (by simp) ?_
          refine AllReadyH.cons rfl (fun K hK => ?_) ?_
          · go_simp
            refine name_world (fun w3 hwn => ?_)
            have hb : Below w2.heap.size w2 w3 := by rw [hwn]; exact (Below.refl _ _).alloc (Nat.le_refl _) _
            have hX : BoxAt w3 w2.heap.size pfZ := by rw [hwn]; exact BoxAt.new _ _ _
            clear hwn
            obtain ⟨g11, hq11⟩ : ∃ q, q = w2.heap.size := ⟨_, rfl⟩
            rw [← hq11] at hX ⊢
            have Hg11 : Hid (wo.heap.size ≤ g11 ∧ p1.gp ≠ g11 ∧ g1 ≠ g11) := hide (by have h1 := HPr.out.2.2; have h2 := HBx.out.2.2; have := HC.out.sz; omega)
            have HnX : Hid (gp ≠ g11) := hide (by have := BoxAt.lt0 HGP.out; omega)
            replace HGP := hide (BoxAt.below HGP.out hb)
            replace HC := hide (HC.out.below hb)
            replace HPr := hide (HPr.out.below hb)
            replace HBx := hide (HBx.out.below hb)
            replace HL := hide (own_below HL.out hb)
            have HX := hide hX
            clear hb hX hq11
            refine hK.out _ _ ?_ (fun hHeld => ?_)
            · exact ⟨HC.out.p, HC.out.s⟩
            clear hK K
            try simp only [Act.put, List.setIfInBounds_toArray, List.set_cons_zero, List.set_cons_succ]
            refine wpAnyH_ready (rs := [12]) (by kernel_rfl) (by simp) ?_
            refine AllReadyH.cons rfl (fun K hK => ?_) ?_
            · obtain ⟨p, hp⟩ : ∃ p : Pv, p = ⟨2, lk2, lo, Af, nf, cf, gs, cq, gp, cp⟩ := ⟨_, rfl⟩
              have hpv : pfL 2 (.slice Af nf cf) (smL 2 lk2 lo (.slice (some ⟨gs, 0, none⟩) 1 cq) 4) (.slice none 0 0) (.slice (some ⟨gp, 0, none⟩) 1 cp) (.slice none 0 0) = pvL p := by rw [hp]; rfl
              have hpg : p.gp = gp := by rw [hp]
              have hpi : p.id = 2 := by rw [hp]
              refine step_store_as rfl rfl 61 (.tmp 11) (.tmp 37) rfl g11 0 (pvL p).toArray rfl (by rw [← hpv]; rfl) (HX.out.there 0 _ (by show 0 + 16 ≤ 16; decide)) (by kernel_rfl) (all_oneCell_toArray (pvL_one p)) ?_
              refine after_put 0 (pvL p) _ HX.out (by show 0 + 16 ≤ 16; decide) rfl (fun w4 hV hT => ?_)
              clear hp hpv
              replace HX := hide hV
              replace HGP := hide (BoxAt.but HGP.out hT (by have := HnX.out; omega))
              replace HC := hide (HC.out.but hT (by have h1 := Hg11.out; have h2 := Hgw.out; omega) (by have h1 := Hg11.out; have h2 := Hgw.out; omega))
              replace HPr := hide (BoxAt.but HPr.out hT (by have := Hg11.out; omega))
              replace HBx := hide (BoxAt.but HBx.out hT (by have := Hg11.out; omega))
              replace HL := hide (own_but2 HL.out hT (fun k hk e => by have h1 := Hg11.out; simp only [Value.ownBlock, Option.some.injEq] at hk; omega))
              clear hV hT
              refine hK.out _ _ ?_ (fun hHeld => ?_)
              · exact ⟨HC.out.p, HC.out.s⟩
              clear hK K
              try simp only [Act.put, List.setIfInBounds_toArray, List.set_cons_zero, List.set_cons_succ]
              refine take_as 13 (some 12) (v := ?_) rfl rfl (by kernel_rfl) (by kernel_rfl) (by kernel_rfl) (fun _ _ _ h => h) (Or.inl ⟨by rfl, ?_⟩) (by assumption) ?_
              rotate_left 1
              · intro w2 hSw
                go_simp
                try with_reducible rfl
              try simp only [Act.put, List.setIfInBounds_toArray, List.set_cons_zero, List.set_cons_succ]
              refine wpAnyH_done (by kernel_rfl) ?_ _
              go_wp2_with (first
                | (go_at_call 38; refine (bs1C p1 hid1 2 (.inr rfl) g1 c1 _ HBx.out).mono ?_; rintro e w7 ⟨rfl, hb⟩; replace HX := hide (HX.out.below hb); replace HGP := hide (BoxAt.below HGP.out hb); replace HC := hide (HC.out.below hb); replace HPr := hide (HPr.out.below hb); replace HBx := hide (HBx.out.below hb); replace HL := hide (own_below HL.out hb); clear hb)
                | ((with_reducible refine wpList_load_mid ?_ 61 (.tmp 11) ?_ (g11) (0) ?_ (pvL p) _ ?_ Tryz.underlying61 ?_ ?_ ?_); (focus rfl); (focus rfl); (focus rfl); (focus exact HX.out.whole); (focus rfl); (focus kernel_rfl))
                | ((with_reducible refine wpList_buildSlice_one ?_ ?_ 32 61 16 208 elemProof (.tmp 51) ?_ (.agg ((pvL p)).toArray) ((pvL p)) ?_ ?_ ?_ ?_ ?_); (focus rfl); (focus rfl); (focus rfl); (focus rfl); (focus rfl); (focus rfl); (focus decide); intro gn Vb hVb hgVb hbVb; have HN := hide hVb; replace HGP := hide (BoxAt.below HGP.out hbVb); replace HC := hide (HC.out.below hbVb); replace HPr := hide (HPr.out.below hbVb); replace HBx := hide (HBx.out.below hbVb); replace HL := hide (own_below HL.out hbVb); clear hVb hgVb hbVb)
                | (go_at_call 40; refine (insert_second (w.heap.size + 3) p1 p g1 c1 gn _ (by have h3 := HC.out.r.2.2; omega) HL.out hc1 HN.out).mono ?_; rintro e w8 ⟨gr, cr, rfl, hap⟩; have HA := hide hap; clear hap))
              have hT := HA.out.but
              have hS : ∀ k, (Value.slice (some ⟨g1, 0, none⟩) 1 c1).ownBlock = some k → k = g1 := fun k hk => by simp only [Value.ownBlock, Option.some.injEq] at hk; exact hk.symm
              replace hT := hT.mono hS
              have HC8 := hide (HC.out.but hT hg1 (by have := Hgw.out; omega))
              have HP8 := hide (BoxAt.but HGP.out hT (by have := Hgp.out; omega))
              have HQ8 := hide (BoxAt.but HPr.out hT hne1)
              clear hT hS
              go_roundw
              case rel => exact ⟨2, by omega, rfl, ⟨gr, cr, p1, p, rfl, ⟨HA.out.box, hid1, hpi, HQ8.out, by unfold PrAt; rw [hpg]; exact HP8.out, HA.out.base, by have h1 := Hgw.out; omega, by rw [hpg]; have h1 := Hgw.out; have h2 := Hgp.out; omega⟩⟩, HC8.out⟩
              case measure => simp [intOf]
            exact AllReadyH.nil
          exact AllReadyH.nil
        refine AllReadyH.cons rfl (fun K hK => ?_) ?_
        · go_simp
          refine name_world (fun w2 hwn => ?_)
          have hb : Below w1.heap.size w1 w2 := by rw [hwn]; exact (Below.refl _ _).alloc (Nat.le_refl _) _
          have hX : BoxAt w2 w1.heap.size pfZ := by rw [hwn]; exact BoxAt.new _ _ _
          clear hwn
          obtain ⟨g11, hq11⟩ : ∃ q, q = w1.heap.size := ⟨_, rfl⟩
          rw [← hq11] at hX ⊢
          have Hg11 : Hid (wo.heap.size ≤ g11 ∧ p1.gp ≠ g11 ∧ g1 ≠ g11) := hide (by have h1 := HPr.out.2.2; have h2 := HBx.out.2.2; have := HC.out.sz; omega)
          replace HC := hide (HC.out.below hb)
          replace HPr := hide (HPr.out.below hb)
          replace HBx := hide (HBx.out.below hb)
          replace HL := hide (own_below HL.out hb)
          have HX := hide hX
          clear hb hX hq11
          refine hK.out _ _ ?_ (fun hHeld => ?_)
          · exact ⟨HC.out.p, HC.out.s⟩
          clear hK K
          try simp only [Act.put, List.setIfInBounds_toArray, List.set_cons_zero, List.set_cons_succ]
          refine wpAnyH_ready (rs := [7]) (by kernel_rfl) (by simp) ?_
          refine AllReadyH.cons rfl (fun K hK => ?_) ?_
          · go_simp
            refine (Hr2.out _ _ _ _ HC.out.bl).mono ?_
            rintro e w3 ⟨Af, nf, cf, lo, gs, cq, gp, cp, rfl, hbp, hgp, hb⟩
            have HnX : Hid (gp ≠ g11) := hide (by have := HX.out.2.2; omega)
            have Hgp : Hid (wo.heap.size ≤ gp ∧ p1.gp ≠ gp ∧ g1 ≠ gp) := hide (by have h1 := HPr.out.2.2; have h2 := HBx.out.2.2; have := HC.out.sz; omega)
            replace HX := hide (HX.out.below hb)
            replace HC := hide (HC.out.below hb)
            replace HPr := hide (HPr.out.below hb)
            replace HBx := hide (HBx.out.below hb)
            replace HL := hide (own_below HL.out hb)
            have HGP := hide hbp
            clear hb hbp hgp
            go_wp2_with fail
            refine hK.out _ _ ?_ (fun hHeld => ?_)
            · exact ⟨HC.out.p, HC.out.s⟩
            clear hK K
            try simp only [Act.put, List.setIfInBounds_toArray, List.set_cons_zero, List.set_cons_succ]
            refine take_as 8 (some 28) (v := ?_) rfl rfl (by kernel_rfl) (by kernel_rfl) (by kernel_rfl) (fun _ _ _ h => h) (Or.inl ⟨by rfl, ?_⟩) (by assumption) ?_
            rotate_left 1
            · intro w2 hSw
              go_simp
              try with_reducible rfl
            try simp only [Act.put, List.setIfInBounds_toArray, List.set_cons_zero, List.set_cons_succ]
            refine take_as 9 (some 37) (v := ?_) rfl rfl (by kernel_rfl) (by kernel_rfl) (by kernel_rfl) (fun _ _ _ h => h) (Or.inl ⟨by rfl, ?_⟩) (by assumption) ?_
            rotate_left 1
            · intro w2 hSw
              go_simp
              try with_reducible rfl
            try simp only [Act.put, List.setIfInBounds_toArray, List.set_cons_zero, List.set_cons_succ]
            refine take_as 10 (some 38) (v := ?_) rfl rfl (by kernel_rfl) (by kernel_rfl) (by kernel_rfl) (fun _ _ _ h => h) (Or.inl ⟨by rfl, ?_⟩) (by assumption) ?_
            rotate_left 1
            · intro w2 hSw
              go_simp
              try with_reducible rfl
            try simp only [Act.put, List.setIfInBounds_toArray, List.set_cons_zero, List.set_cons_succ]
            refine wpAnyH_ready (rs := [12]) (by kernel_rfl) (by simp) ?_
            refine AllReadyH.cons rfl (fun K hK => ?_) ?_
            · obtain ⟨p, hp⟩ : ∃ p : Pv, p = ⟨2, lk2, lo, Af, nf, cf, gs, cq, gp, cp⟩ := ⟨_, rfl⟩
              have hpv : pfL 2 (.slice Af nf cf) (smL 2 lk2 lo (.slice (some ⟨gs, 0, none⟩) 1 cq) 4) (.slice none 0 0) (.slice (some ⟨gp, 0, none⟩) 1 cp) (.slice none 0 0) = pvL p := by rw [hp]; rfl
              have hpg : p.gp = gp := by rw [hp]
              have hpi : p.id = 2 := by rw [hp]
              refine step_store_as rfl rfl 61 (.tmp 11) (.tmp 37) rfl g11 0 (pvL p).toArray rfl (by rw [← hpv]; rfl) (HX.out.there 0 _ (by show 0 + 16 ≤ 16; decide)) (by kernel_rfl) (all_oneCell_toArray (pvL_one p)) ?_
              refine after_put 0 (pvL p) _ HX.out (by show 0 + 16 ≤ 16; decide) rfl (fun w4 hV hT => ?_)
              clear hp hpv
              replace HX := hide hV
              replace HGP := hide (BoxAt.but HGP.out hT (by have := HnX.out; omega))
              replace HC := hide (HC.out.but hT (by have h1 := Hg11.out; have h2 := Hgw.out; omega) (by have h1 := Hg11.out; have h2 := Hgw.out; omega))
              replace HPr := hide (BoxAt.but HPr.out hT (by have := Hg11.out; omega))
              replace HBx := hide (BoxAt.but HBx.out hT (by have := Hg11.out; omega))
              replace HL := hide (own_but2 HL.out hT (fun k hk e => by have h1 := Hg11.out; simp only [Value.ownBlock, Option.some.injEq] at hk; omega))
              clear hV hT
              refine hK.out _ _ ?_ (fun hHeld => ?_)
              · exact ⟨HC.out.p, HC.out.s⟩
              clear hK K
              try simp only [Act.put, List.setIfInBounds_toArray, List.set_cons_zero, List.set_cons_succ]
              refine take_as 13 (some 12) (v := ?_) rfl rfl (by kernel_rfl) (by kernel_rfl) (by kernel_rfl) (fun _ _ _ h => h) (Or.inl ⟨by rfl, ?_⟩) (by assumption) ?_
              rotate_left 1
              · intro w2 hSw
                go_simp
                try with_reducible rfl
              try simp only [Act.put, List.setIfInBounds_toArray, List.set_cons_zero, List.set_cons_succ]
              refine wpAnyH_done (by kernel_rfl) ?_ _
              go_wp2_with (first
                | (go_at_call 38; refine (bs1C p1 hid1 2 (.inr rfl) g1 c1 _ HBx.out).mono ?_; rintro e w7 ⟨rfl, hb⟩; replace HX := hide (HX.out.below hb); replace HGP := hide (BoxAt.below HGP.out hb); replace HC := hide (HC.out.below hb); replace HPr := hide (HPr.out.below hb); replace HBx := hide (HBx.out.below hb); replace HL := hide (own_below HL.out hb); clear hb)
                | ((with_reducible refine wpList_load_mid ?_ 61 (.tmp 11) ?_ (g11) (0) ?_ (pvL p) _ ?_ Tryz.underlying61 ?_ ?_ ?_); (focus rfl); (focus rfl); (focus rfl); (focus exact HX.out.whole); (focus rfl); (focus kernel_rfl))
                | ((with_reducible refine wpList_buildSlice_one ?_ ?_ 32 61 16 208 elemProof (.tmp 51) ?_ (.agg ((pvL p)).toArray) ((pvL p)) ?_ ?_ ?_ ?_ ?_); (focus rfl); (focus rfl); (focus rfl); (focus rfl); (focus rfl); (focus rfl); (focus decide); intro gn Vb hVb hgVb hbVb; have HN := hide hVb; replace HGP := hide (BoxAt.below HGP.out hbVb); replace HC := hide (HC.out.below hbVb); replace HPr := hide (HPr.out.below hbVb); replace HBx := hide (HBx.out.below hbVb); replace HL := hide (own_below HL.out hbVb); clear hVb hgVb hbVb)
                | (go_at_call 40; refine (insert_second (w.heap.size + 3) p1 p g1 c1 gn _ (by have h3 := HC.out.r.2.2; omega) HL.out hc1 HN.out).mono ?_; rintro e w8 ⟨gr, cr, rfl, hap⟩; have HA := hide hap; clear hap))
              have hT := HA.out.but
              have hS : ∀ k, (Value.slice (some ⟨g1, 0, none⟩) 1 c1).ownBlock = some k → k = g1 := fun k hk => by simp only [Value.ownBlock, Option.some.injEq] at hk; exact hk.symm
              replace hT := hT.mono hS
              have HC8 := hide (HC.out.but hT hg1 (by have := Hgw.out; omega))
              have HP8 := hide (BoxAt.but HGP.out hT (by have := Hgp.out; omega))
              have HQ8 := hide (BoxAt.but HPr.out hT hne1)
              clear hT hS
              go_roundw
              case rel => exact ⟨2, by omega, rfl, ⟨gr, cr, p1, p, rfl, ⟨HA.out.box, hid1, hpi, HQ8.out, by unfold PrAt; rw [hpg]; exact HP8.out, HA.out.base, by have h1 := Hgw.out; omega, by rw [hpg]; have h1 := Hgw.out; have h2 := Hgp.out; omega⟩⟩, HC8.out⟩
              case measure => simp [intOf]
            exact AllReadyH.nil
          exact AllReadyH.nil
        exact AllReadyH.nil
      refine AllReadyH.cons rfl (fun K hK => ?_) ?_
      · go_simp
        refine name_world (fun w1 hwn => ?_)
        have hb : Below w0.heap.size w0 w1 := by rw [hwn]; exact (Below.refl _ _).alloc (Nat.le_refl _) _
        have hX : BoxAt w1 w0.heap.size pfZ := by rw [hwn]; exact BoxAt.new _ _ _
        clear hwn
        obtain ⟨g11, hq11⟩ : ∃ q, q = w0.heap.size := ⟨_, rfl⟩
        rw [← hq11] at hX ⊢
        have Hg11 : Hid (wo.heap.size ≤ g11 ∧ p1.gp ≠ g11 ∧ g1 ≠ g11) := hide (by have h1 := HPr.out.2.2; have h2 := HBx.out.2.2; have := HC.out.sz; omega)
        replace HC := hide (HC.out.below hb)
        replace HPr := hide (HPr.out.below hb)
        replace HBx := hide (HBx.out.below hb)
        replace HL := hide (own_below HL.out hb)
        have HX := hide hX
        clear hb hX hq11
        refine hK.out _ _ ?_ (fun hHeld => ?_)
        · exact ⟨HC.out.p, HC.out.s⟩
        clear hK K
        try simp only [Act.put, List.setIfInBounds_toArray, List.set_cons_zero, List.set_cons_succ]
        refine wpAnyH_ready (rs := [6]) (by kernel_rfl) (by simp) ?_
        refine AllReadyH.cons rfl (fun K hK => ?_) ?_
        · go_simp
          refine (sums_any b (.slice (some ⟨g1, 0, none⟩) 1 c1) (some p1) none (fun p hp => by cases hp; exact hid1) (fun p hp => by cases hp) _ (fun V hV => ⟨proof1 p1 hid1 g1 c1 1 (.inl rfl) V (HBx.out.below hV), proof1 p1 hid1 g1 c1 2 (.inr rfl) V (HBx.out.below hV)⟩) (HH0.out.below HC.out.bl)).mono ?_
          rintro e w2 ⟨gS, cS, sa1, sa2, rfl, -, -, -, -, hb⟩
          replace HX := hide (HX.out.below hb)
          replace HC := hide (HC.out.below hb)
          replace HPr := hide (HPr.out.below hb)
          replace HBx := hide (HBx.out.below hb)
          replace HL := hide (own_below HL.out hb)
          have H6d := trivial
          clear hb
          go_wp2_with fail
          refine hK.out _ _ ?_ (fun hHeld => ?_)
          · exact ⟨HC.out.p, HC.out.s⟩
          clear hK K
          try simp only [Act.put, List.setIfInBounds_toArray, List.set_cons_zero, List.set_cons_succ]
          refine wpAnyH_ready (rs := [7]) (by kernel_rfl) (by simp) ?_
          refine AllReadyH.cons rfl (fun K hK => ?_) ?_
          · go_simp
            refine (Hr2.out _ _ _ _ HC.out.bl).mono ?_
            rintro e w3 ⟨Af, nf, cf, lo, gs, cq, gp, cp, rfl, hbp, hgp, hb⟩
            have HnX : Hid (gp ≠ g11) := hide (by have := HX.out.2.2; omega)
            have Hgp : Hid (wo.heap.size ≤ gp ∧ p1.gp ≠ gp ∧ g1 ≠ gp) := hide (by have h1 := HPr.out.2.2; have h2 := HBx.out.2.2; have := HC.out.sz; omega)
            replace HX := hide (HX.out.below hb)
            replace HC := hide (HC.out.below hb)
            replace HPr := hide (HPr.out.below hb)
            replace HBx := hide (HBx.out.below hb)
            replace HL := hide (own_below HL.out hb)
            have HGP := hide hbp
            clear hb hbp hgp
            go_wp2_with fail
            refine hK.out _ _ ?_ (fun hHeld => ?_)
            · exact ⟨HC.out.p, HC.out.s⟩
            clear hK K
            try simp only [Act.put, List.setIfInBounds_toArray, List.set_cons_zero, List.set_cons_succ]
            refine take_as 8 (some 28) (v := ?_) rfl rfl (by kernel_rfl) (by kernel_rfl) (by kernel_rfl) (fun _ _ _ h => h) (Or.inl ⟨by rfl, ?_⟩) (by assumption) ?_
            rotate_left 1
            · intro w2 hSw
              go_simp
              try with_reducible rfl
            try simp only [Act.put, List.setIfInBounds_toArray, List.set_cons_zero, List.set_cons_succ]
            refine take_as 9 (some 37) (v := ?_) rfl rfl (by kernel_rfl) (by kernel_rfl) (by kernel_rfl) (fun _ _ _ h => h) (Or.inl ⟨by rfl, ?_⟩) (by assumption) ?_
            rotate_left 1
            · intro w2 hSw
              go_simp
              try with_reducible rfl
            try simp only [Act.put, List.setIfInBounds_toArray, List.set_cons_zero, List.set_cons_succ]
            refine take_as 10 (some 38) (v := ?_) rfl rfl (by kernel_rfl) (by kernel_rfl) (by kernel_rfl) (fun _ _ _ h => h) (Or.inl ⟨by rfl, ?_⟩) (by assumption) ?_
            rotate_left 1
            · intro w2 hSw
              go_simp
              try with_reducible rfl
            try simp only [Act.put, List.setIfInBounds_toArray, List.set_cons_zero, List.set_cons_succ]
            refine wpAnyH_ready (rs := [12]) (by kernel_rfl) (by simp) ?_
            refine AllReadyH.cons rfl (fun K hK => ?_) ?_
            · obtain ⟨p, hp⟩ : ∃ p : Pv, p = ⟨2, lk2, lo, Af, nf, cf, gs, cq, gp, cp⟩ := ⟨_, rfl⟩
              have hpv : pfL 2 (.slice Af nf cf) (smL 2 lk2 lo (.slice (some ⟨gs, 0, none⟩) 1 cq) 4) (.slice none 0 0) (.slice (some ⟨gp, 0, none⟩) 1 cp) (.slice none 0 0) = pvL p := by rw [hp]; rfl
              have hpg : p.gp = gp := by rw [hp]
              have hpi : p.id = 2 := by rw [hp]
              refine step_store_as rfl rfl 61 (.tmp 11) (.tmp 37) rfl g11 0 (pvL p).toArray rfl (by rw [← hpv]; rfl) (HX.out.there 0 _ (by show 0 + 16 ≤ 16; decide)) (by kernel_rfl) (all_oneCell_toArray (pvL_one p)) ?_
              refine after_put 0 (pvL p) _ HX.out (by show 0 + 16 ≤ 16; decide) rfl (fun w4 hV hT => ?_)
              clear hp hpv
              replace HX := hide hV
              replace HGP := hide (BoxAt.but HGP.out hT (by have := HnX.out; omega))
              replace HC := hide (HC.out.but hT (by have h1 := Hg11.out; have h2 := Hgw.out; omega) (by have h1 := Hg11.out; have h2 := Hgw.out; omega))
              replace HPr := hide (BoxAt.but HPr.out hT (by have := Hg11.out; omega))
              replace HBx := hide (BoxAt.but HBx.out hT (by have := Hg11.out; omega))
              replace HL := hide (own_but2 HL.out hT (fun k hk e => by have h1 := Hg11.out; simp only [Value.ownBlock, Option.some.injEq] at hk; omega))
              clear hV hT
              refine hK.out _ _ ?_ (fun hHeld => ?_)
              · exact ⟨HC.out.p, HC.out.s⟩
              clear hK K
              try simp only [Act.put, List.setIfInBounds_toArray, List.set_cons_zero, List.set_cons_succ]
              refine take_as 13 (some 12) (v := ?_) rfl rfl (by kernel_rfl) (by kernel_rfl) (by kernel_rfl) (fun _ _ _ h => h) (Or.inl ⟨by rfl, ?_⟩) (by assumption) ?_
              rotate_left 1
              · intro w2 hSw
                go_simp
                try with_reducible rfl
              try simp only [Act.put, List.setIfInBounds_toArray, List.set_cons_zero, List.set_cons_succ]
              refine wpAnyH_done (by kernel_rfl) ?_ _
              go_wp2_with (first
                | (go_at_call 38; refine (bs1C p1 hid1 2 (.inr rfl) g1 c1 _ HBx.out).mono ?_; rintro e w7 ⟨rfl, hb⟩; replace HX := hide (HX.out.below hb); replace HGP := hide (BoxAt.below HGP.out hb); replace HC := hide (HC.out.below hb); replace HPr := hide (HPr.out.below hb); replace HBx := hide (HBx.out.below hb); replace HL := hide (own_below HL.out hb); clear hb)
                | ((with_reducible refine wpList_load_mid ?_ 61 (.tmp 11) ?_ (g11) (0) ?_ (pvL p) _ ?_ Tryz.underlying61 ?_ ?_ ?_); (focus rfl); (focus rfl); (focus rfl); (focus exact HX.out.whole); (focus rfl); (focus kernel_rfl))
                | ((with_reducible refine wpList_buildSlice_one ?_ ?_ 32 61 16 208 elemProof (.tmp 51) ?_ (.agg ((pvL p)).toArray) ((pvL p)) ?_ ?_ ?_ ?_ ?_); (focus rfl); (focus rfl); (focus rfl); (focus rfl); (focus rfl); (focus rfl); (focus decide); intro gn Vb hVb hgVb hbVb; have HN := hide hVb; replace HGP := hide (BoxAt.below HGP.out hbVb); replace HC := hide (HC.out.below hbVb); replace HPr := hide (HPr.out.below hbVb); replace HBx := hide (HBx.out.below hbVb); replace HL := hide (own_below HL.out hbVb); clear hVb hgVb hbVb)
                | (go_at_call 40; refine (insert_second (w.heap.size + 3) p1 p g1 c1 gn _ (by have h3 := HC.out.r.2.2; omega) HL.out hc1 HN.out).mono ?_; rintro e w8 ⟨gr, cr, rfl, hap⟩; have HA := hide hap; clear hap))
              have hT := HA.out.but
              have hS : ∀ k, (Value.slice (some ⟨g1, 0, none⟩) 1 c1).ownBlock = some k → k = g1 := fun k hk => by simp only [Value.ownBlock, Option.some.injEq] at hk; exact hk.symm
              replace hT := hT.mono hS
              have HC8 := hide (HC.out.but hT hg1 (by have := Hgw.out; omega))
              have HP8 := hide (BoxAt.but HGP.out hT (by have := Hgp.out; omega))
              have HQ8 := hide (BoxAt.but HPr.out hT hne1)
              clear hT hS
              go_roundw
              case rel => exact ⟨2, by omega, rfl, ⟨gr, cr, p1, p, rfl, ⟨HA.out.box, hid1, hpi, HQ8.out, by unfold PrAt; rw [hpg]; exact HP8.out, HA.out.base, by have h1 := Hgw.out; omega, by rw [hpg]; have h1 := Hgw.out; have h2 := Hgp.out; omega⟩⟩, HC8.out⟩
              case measure => simp [intOf]
            exact AllReadyH.nil
          exact AllReadyH.nil
        exact AllReadyH.nil
      exact AllReadyH.nil
  · obtain rfl : j = 2 := by omega
    obtain ⟨g, c, p1, p2, rfl, hpv⟩ := hR
    have HPv := hide hpv
    clear hpv
    go_wp2_with (first
      | (have h8 := HV6; clear h8; exact bodyPost_ret (res_box2 (cs := [.slice (some ⟨g, 0, none⟩) 2 c, .slice A fs.length c2]) rfl rfl rfl HV6.out Tryz.underlying35 rfl (by kernel_rfl)) rfl (cold_end HPv.out hfA HC.out.bl hbF HTV6.out (by have := HC.out.r.2.2; omega)))
      | ((with_reducible refine wpList_load_mid ?_ 48 (.tmp 3) ?_ (w.heap.size) (0) ?_ (pgL b) _ ?_ Tryz.underlying48 ?_ ?_ ?_); (focus rfl); (focus rfl); (focus rfl); (focus exact HC.out.p.whole); (focus rfl); (focus kernel_rfl); simp only [pgL])
      | (go_at_call 41; refine (Hf.out _ g c p1 p2 HC.out.bl HPv.out).mono ?_; rintro e w9 ⟨A, c2, rfl, hfA, hbF⟩; have H69 := hide (HC.out.r.below hbF))
      | ((with_reducible refine wpList_store_in ?_ ?_ 35 (.tmp 6) (.tmp 60) ?_ (w.heap.size + 1 + 1) 0 whZ [.slice (some ⟨g, 0, none⟩) 2 c, .slice A fs.length c2] [.slice (some ⟨g, 0, none⟩) 2 c, .slice A fs.length c2] ?_ ?_ ?_ ?_ ?_ ?_ ?_ ?_); (focus rfl); (focus rfl); (focus rfl); (focus rfl); (focus rfl); (focus exact H69.out); (focus (show 0 + 2 ≤ 2; decide)); (focus rfl); (focus kernel_rfl); (focus exact whR_one); intro V6 hV6 hTV6; have HV6 := hide hV6; have HTV6 := hide hTV6; clear hV6 hTV6))


end Go.Proofs.YthhfakkfdohcpaaGreat
