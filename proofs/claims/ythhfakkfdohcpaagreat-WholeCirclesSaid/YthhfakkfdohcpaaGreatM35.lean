/- The law's walk: WholeCircles answers true. No condition. -/
import Derived.Test.YthhfakkfdohcpaaGreatM34
import Derived.Deep.CutRange
import Derived.Deep.CutBlock
namespace Go.Proofs.YthhfakkfdohcpaaGreat
open Go.RowKit Go.ChangeMaps Go.MapKept
theorem wpList_build0 {P0 : Program} (hP : P0 = Tryz.prog) {ops : Array Oper} {rest : List Oper} {o : Oper} {a : Act} {w : World} {Q : Exit → Act → World → Prop} (hg : o.guard = none) (t : TypeId) (ho : o.op = .build t #[])
    (r : Value) (hrun : ∀ W, (Instr.build t #[]).run Tryz.prog W = .ok r W) (h : wpList P0 ops Q rest (a.put o.dst r) w) : wpList P0 ops Q (o :: rest) a w := by
  subst hP
  refine wpList_plain hg fun K' hK' => ?_
  unfold Oper.wp
  simp only [execOp, ho, List.map_toArray, List.map_nil, Sem.run_bind, Result.andThen, hrun, Sem.run_pure]
  exact hK' _ _ h
theorem wpList_store_over {ops : Array Oper} {rest : List Oper} {o : Oper} {a : Act} {w : World} {Q : Exit → Act → World → Prop} (hg : o.guard = none) (hd : o.dst = none) (ty : TypeId) (x y : Operand) (ho : o.op = .store ty x y)
    {A : List Value} {t : TypeId} {o0 : Obj} (cs : List Value) (hx : a.eval x = .pointer (some ⟨w.heap.size + 1, 0, none⟩)) (hy : a.eval y = .agg cs.toArray) (hl : A.length = cs.length) (hi : (Tryz.prog.info? ty).map (·.size) = some cs.toArray.size) (h1 : ∀ v ∈ cs, v.oneCell' = true)
    (h : ∀ V, BoxAt V (w.heap.size + 1) cs → Below (w.alloc o0).heap.size (w.alloc o0) V → wpList Tryz.prog ops Q rest a V) : wpList Tryz.prog ops Q (o :: rest) a ((w.alloc o0).alloc (.cells A.toArray t)) := by
  have s1 := World.size_alloc w o0
  refine wpList_store_new hg hd ty x y ho cs (by rw [s1]; exact hx) hy hl hi h1 fun V hV hb => ?_
  rw [s1] at hV
  exact h V hV hb
/-- The pairs are made. -/
def MakRel (w : World) (B g5 : Nat) (i : Nat) (t : Value) (wr : World) : Prop :=
  ∃ (ps : List Tri) (M : Nat → Nat → Bool) (pb cap : Nat), ps.length = i ∧ Small ps ∧ Tells M ps ∧ t = .slice (some ⟨pb, 0, none⟩) i cap ∧ wr.ownsRow B 29 3 t i (ps.flatMap prV) ∧ PrsAt wr pb ps ∧ BoxAt wr g5 (matL M) ∧ pb ≠ g5 ∧ Below w.heap.size w wr
/-- What is left of the pairs. -/
noncomputable def restOf (ps : List Tri) (j : Nat) : List Tri := (ps.take j).filter (fun x => !onC ps x)
def RestRel (ps : List Tri) (B : Nat) (j : Nat) (t : Value) (wr : World) : Prop :=
  ∃ gr cap, t = .slice (some ⟨gr, 0, none⟩) (restOf ps j).length cap ∧ wr.ownsRow B 29 3 t (restOf ps j).length ((restOf ps j).flatMap prV) ∧ PrsAt wr gr (restOf ps j)
theorem rs_len {rs ps : List Tri} (hm : ∀ x, x ∈ rs ↔ x ∈ ps ∧ PWay ps x.2.1 x.1) (hs : rs.Pairwise Tlt) : rs.length ≤ ps.length := by
  have hn : rs.Nodup := hs.imp (fun {a b} h e => by subst e; exact tlt_irrefl h)
  exact hn.length_le_of_subset (fun x hx => ((hm x).1 hx).1)
theorem rest_on {ps : List Tri} {j : Nat} {x : Tri} (hx : ps[j]? = some x) (h : onC ps x = true) : restOf ps (j + 1) = restOf ps j := by
  unfold restOf
  rw [List.take_add_one, hx, List.filter_append]
  simp [h]
theorem rest_off {ps : List Tri} {j : Nat} {x : Tri} (hx : ps[j]? = some x) (h : onC ps x = false) : restOf ps (j + 1) = restOf ps j ++ [x] := by
  unfold restOf
  rw [List.take_add_one, hx, List.filter_append]
  simp [h]
theorem rest_len (ps : List Tri) (j : Nat) : (restOf ps j).length ≤ ps.length := by
  unfold restOf
  refine Nat.le_trans (List.length_filter_le _ _) ?_
  rw [List.length_take]
  omega
theorem PWay.mono {ps qs : List Tri} (h : ∀ x, x ∈ ps → x ∈ qs) {a b : Int} (w : PWay ps a b) : PWay qs a b := by
  induction w with
  | here => exact .here _
  | step s hm _ ih => exact .step s (h _ hm) ih
/-- Of what is left nothing is in a circle. -/
theorem rest_none {ps rs : List Tri} {n : Nat} (h : ∀ x, x ∈ rs ↔ x ∈ restOf ps n ∧ PWay (restOf ps n) x.2.1 x.1) : rs = [] := by
  rw [List.eq_nil_iff_forall_not_mem]
  intro x hx
  obtain ⟨h1, h2⟩ := (h x).1 hx
  have hsub : ∀ y, y ∈ restOf ps n → y ∈ ps := fun y hy => List.mem_of_mem_take (List.mem_filter.1 hy).1
  have h3 := (List.mem_filter.1 h1).2
  have h4 := (onC_is ps x).2 (h2.mono hsub)
  rw [h4] at h3
  cases h3
/-- What the table says in the end. -/
theorem table_says {ps : List Tri} {M N : Nat → Nat → Bool} (hs : Small ps) (ht : Tells M ps) (hN : N = warK M 6) (a b : Nat) : PWay ps b a ↔ (a = b ∨ N b a = true) := by
  have hE : ∀ i j : Nat, (∃ s, ((i : Int), (j : Int), s) ∈ ps) → i < 6 ∧ j < 6 := by
    rintro i j ⟨s, h⟩
    obtain ⟨a', b', s', e, h1, h2⟩ := hs _ h
    simp only [trN, Prod.mk.injEq] at e
    omega
  rw [hN, warK_is (E := fun i j => ∃ s, ((i : Int), (j : Int), s) ∈ ps) ht hE]
  constructor
  · intro h
    have key : ∀ x y : Int, PWay ps x y → ∀ i j : Nat, x = i → y = j → j = i ∨ WayN (fun i j => ∃ s, ((i : Int), (j : Int), s) ∈ ps) i j := by
      intro x y h
      induction h with
      | here => intro i j h1 h2; exact .inl (by omega)
      | @step p q r s hm _ ih =>
        intro i j h1 h2
        obtain ⟨a', b', s', e, -, -⟩ := hs _ hm
        simp only [trN, Prod.mk.injEq] at e
        obtain ⟨-, e2, -⟩ := e
        subst h1 e2
        rcases ih b' j rfl h2 with h | h
        · subst h
          exact .inr (.one ⟨s, hm⟩)
        · exact .inr ((WayN.one ⟨s, hm⟩).join h)
    exact key _ _ h b a rfl rfl
  · rintro (rfl | h)
    · exact .here _
    · induction h with
      | one e =>
        obtain ⟨s, hs⟩ := e
        exact .step s hs (.here _)
      | join _ _ i1 i2 =>
        have tr : ∀ x y z : Int, PWay ps x y → PWay ps y z → PWay ps x z := by
          intro x y z h k
          induction h with
          | here => exact k
          | step s hm _ ih => exact .step s hm (ih k)
        exact tr _ _ _ i1 i2
/-- The pairs and the table, made. -/
def MadeAt (w : World) (g5 : Nat) (t : Value) (wr : World) : Prop :=
  ∃ (ps : List Tri) (M : Nat → Nat → Bool) (pb cap : Nat), ps.length ≤ 14 ∧ Small ps ∧ Tells M ps ∧ t = .slice (some ⟨pb, 0, none⟩) ps.length cap ∧ PrsAt wr pb ps ∧ BoxAt wr g5 (matL M) ∧ pb ≠ g5 ∧ Below w.heap.size w wr
set_option maxRecDepth 100000 in
set_option maxHeartbeats 16000000 in
theorem law_walk (A : Option Addr) (n c : Nat) (w : World) (hA : BytesAt w w.heap.size A n) :
    Calls Tryz.prog 3 #[.slice A n c] w fun e w' => e = .returned (.bool true) ∧ Below w.heap.size w w' := by
  have HA := hide hA; clear hA
  go_enter Tryz.func3, Tryz.ntmps3
  go_upto_region 4 with (first
    | (go_at_call 4; refine (examples_true _).mono ?_; rintro e w1 ⟨rfl, hb⟩; have HbW := hide hb; clear hb))
  have hbs : ∀ W, (Instr.buildSlice 24 0 #[]).run Tryz.prog W = .ok (.slice (some ⟨W.heap.size, 0, none⟩) 0 0) (W.alloc (.cells #[] 29)) := fun _ => by kernel_rfl
  go_upto_region 5 with (first
    | ((with_reducible refine wpList_build0 ?_ ?_ 26 ?_ (.agg (matL (fun _ _ => false)).toArray) (fun W => by kernel_rfl) ?_); (focus rfl); (focus rfl); (focus rfl); skip)
    | ((with_reducible refine wpList_store_over ?_ ?_ 26 (.tmp 5) (.tmp 26) ?_ (matL (fun _ _ => false)) ?_ ?_ ?_ ?_ ?_ ?_); (focus rfl); (focus rfl); (focus rfl); (focus rfl); (focus rfl); (focus rfl); (focus kernel_rfl); (focus exact matL_one); intro V5 hV5 hbV5; have HV5 := hide hV5; have HbV5 := hide hbV5; clear hV5 hbV5))
  have HO : Hid (V5.ownsRow w1.heap.size 29 3 (.slice (some ⟨w1.heap.size, 0, none⟩) 0 0) 0 []) := hide (own_new (⟨by simp, .inr ⟨w1.heap.size, 0, #[], rfl, Nat.le_refl _, Go.heap_alloc_new w1 _, by omega, by unfold maxLen; omega, rfl, rfl⟩⟩ : (w1.alloc (.cells #[] 29)).ownsRow w1.heap.size 29 3 (.slice (some ⟨w1.heap.size, 0, none⟩) 0 0) 0 []) HbV5.out)
  have HPs : Hid (PrsAt V5 w1.heap.size []) := hide (BoxAt.below (BoxAt.new w1 [] 29) HbV5.out)
  have HbW5 : Hid (Below w.heap.size w V5) := hide (HbW.out.trans ((((Below.refl w.heap.size w1).alloc HbW.out.size _)).trans (HbV5.out.mono (by simp; have := HbW.out.size; omega))))
  obtain ⟨B, hB⟩ : ∃ q, q = w1.heap.size := ⟨_, rfl⟩
  have hwB : w.heap.size ≤ B := by rw [hB]; exact HbW.out.size
  rw [← hB] at HV5 HO HPs ⊢
  clear hB HbV5 HbW
  obtain ⟨g5, h5⟩ : ∃ q, q = B + 1 := ⟨_, rfl⟩
  rw [← h5] at HV5 ⊢
  have h5B : B < g5 := by omega
  clear h5
  go_upto_block 0 with (fail)
  go_cut [4] (fun t wx => MadeAt w g5 t wx)
  case first =>
    go_wp2_with fail
    go_loopw [6, 4] (fun i t wr => ∃ j : Nat, j ≤ n ∧ j ≤ 14 ∧ i = .int .i64 j ∧ MakRel w B g5 j t wr) (fun i _ _ => 14 - (intOf i).toNat)
    case atStart => exact ⟨0, by omega, by omega, rfl, [], fun _ _ => false, B, 0, rfl, by simp [Small], by simp [Tells], rfl, HO.out, HPs.out, HV5.out, by omega, HbW5.out⟩
    case round =>
      clear HO HPs HV5 HbW5
      obtain ⟨j, hjn, hj14, rfl, ps, M, pb, cap, hlen, hsm, htl, rfl, hown, hps, hmat, hne, hbw⟩ := hrel
      have HO := hide hown
      have HPs := hide hps
      have HM := hide hmat
      have HbW := hide hbw
      have Hsm := hide hsm
      have Htl := hide htl
      have Hlen := hide hlen
      clear hown hps hmat hbw hsm htl hlen
      by_cases hj1 : j < n
      · by_cases hj2 : j < 14
        · obtain ⟨ba, off, rfl, hba, hk⟩ := HA.out (by omega)
          obtain ⟨x, y, hx, hy, hx2, hy2⟩ := hk j hj1
          have c0 : wr.cell? ⟨ba, off + j * 2, none⟩ = some (.int .u8 x) := (HbW.out.cell (p := ⟨ba, off + j * 2, none⟩) hba).trans hx
          have c1 : wr.cell? ⟨ba, off + j * 2 + 1, none⟩ = some (.int .u8 y) := (HbW.out.cell (p := ⟨ba, off + j * 2 + 1, none⟩) hba).trans hy
          clear hx hy hk
          go_upto_region 8 with (fail)
          go_quiet (fail)
          go_upto_region 9 with (fail)
          clear c0 c1
          have ha : ((x : Int) % 6) = ((x % 6 : Nat) : Int) := by omega
          have hb : ((y : Int) % 6) = ((y % 6 : Nat) : Int) := by omega
          have ha6 : x % 6 < 6 := by omega
          have hb6 : y % 6 < 6 := by omega
          rw [ha, hb]
          obtain ⟨a, hae⟩ : ∃ q, q = x % 6 := ⟨_, rfl⟩
          obtain ⟨b, hbe⟩ : ∃ q, q = y % 6 := ⟨_, rfl⟩
          rw [← hae] at ha6 ⊢
          rw [← hbe] at hb6 ⊢
          clear ha hb hae hbe
          obtain ⟨wq, hwq⟩ : ∃ V, V = wr.drewN nq := ⟨_, rfl⟩
          have hbq : Below wr.heap.size wr wq := by rw [hwq]; exact below_drewN (Below.refl _ _) _
          rw [← hwq]
          clear hwq
          replace HO := hide (own_below HO.out hbq)
          replace HPs := hide (BoxAt.below HPs.out hbq)
          replace HM := hide (HM.out.below hbq)
          replace HbW := hide (HbW.out.trans (hbq.mono HbW.out.size))
          have Hgo : Hid (∀ k, (Value.slice (some ⟨pb, 0, none⟩) j cap).ownBlock = some k → k ≠ g5) := hide (fun k hk => by simp only [Value.ownBlock, Option.some.injEq] at hk; omega)
          have HBz : Hid (B ≤ wq.heap.size) := hide (by have := HM.out.2.2; omega)
          have HO0 : Hid (∀ k, (Value.slice (some ⟨pb, 0, none⟩) j cap).ownBlock = some k → B ≤ k) := hide (fun k hk => (HO.out.lt k hk).1)
          clear hbq
          go_wp2_with (first
            | ((with_reducible refine wpList_buildSlice_one ?_ ?_ 24 29 3 24 elemPair (.tmp 56) ?_ (.agg ((prV (trN a b (j % 3)))).toArray) ((prV (trN a b (j % 3)))) ?_ ?_ ?_ ?_ ?_); (focus rfl); (focus rfl); (focus rfl); (focus rfl); (focus rfl); (focus rfl); (focus decide); intro gb Vb hVb hgVb hbVb; have HGB := hide hVb; replace HO := hide (own_below HO.out hbVb); replace HPs := hide (BoxAt.below HPs.out hbVb); replace HM := hide (HM.out.below hbVb); replace HbW := hide (HbW.out.trans (hbVb.mono HbW.out.size)); replace HBz := hide (Nat.le_trans HBz.out hbVb.size); clear hVb hgVb hbVb)
            | ((with_reducible refine wpList_append_to ?_ ?_ (.tmp 51) (.tmp 57) 24 29 3 24 elemPair ?_ B (.slice (some ⟨pb, 0, none⟩) j cap) j (ps.flatMap prV) ?_ HO.out gb 1 1 (prV (trN a b (j % 3))) ?_ ?_ ?_ ?_ ?_ ?_ ?_ ?_); (focus rfl); (focus rfl); (focus rfl); (focus rfl); (focus rfl); (focus exact HGB.out); (focus rfl); (focus exact prV_one); (focus omega); (focus omega); (focus exact HBz.out); intro gn cn Vc hap; replace HO := hide hap.own; have HP2 := hide hap.box; have Hne : Hid (gn ≠ g5) := hide (hap.new.elim (fun h => Hgo.out _ h) (fun h => by have := HM.out.2.2; omega)); replace HM := hide (HM.out.but hap.but (fun h => Hgo.out _ h rfl)); replace HbW := hide (HbW.out.trans (hap.but.below HbW.out.size (fun k hk => Nat.le_trans hwB (HO0.out k hk)))); clear hap)
            | ((with_reducible refine wpList_store_cell ?_ ?_ ?_ 4 (.tmp 62) (.const (.bool true)) ?_ g5 (a * 6 + b) (matL M) (.bool true) (matL (updM M a b true)) ?_ ?_ ?_ ?_ ?_ ?_ ?_ ?_); (focus rfl); (focus rfl); (focus rfl); (focus rfl); (focus rfl); (focus rfl); (focus exact HM.out); (focus (rw [matL_len]; omega)); (focus exact (matL_set M ha6 hb6 true).symm); (focus rfl); (focus kernel_rfl); intro Vs hV hT; replace HM := hide hV; replace HO := hide (own_but2 HO.out hT (fun k hk => by simp only [Value.ownBlock, Option.some.injEq] at hk; have := Hne.out; omega)); replace HP2 := hide (HP2.out.but hT Hne.out); replace HbW := hide (HbW.out.trans (hT.below HbW.out.size (fun k hk => by omega))); clear hV hT))
          go_roundw
          case rel => exact ⟨j + 1, by omega, by omega, by go_num, ps ++ [trN a b (j % 3)], updM M a b true, gn, cn, by rw [List.length_append, Hlen.out]; rfl, Hsm.out.snoc ha6 hb6, Htl.out.snoc, rfl, by rw [prs_snoc]; exact HO.out, by unfold PrsAt; rw [prs_snoc]; exact HP2.out, HM.out, Hne.out, HbW.out⟩
          case measure => simp [intOf]; omega
        · go_wp2_with fail
          go_meet
          exact ⟨ps, M, pb, cap, by rw [Hlen.out]; exact hj14, Hsm.out, Htl.out, by rw [Hlen.out], HPs.out, HM.out, hne, HbW.out⟩
      · go_wp2_with fail
        go_meet
        exact ⟨ps, M, pb, cap, by rw [Hlen.out]; exact hj14, Hsm.out, Htl.out, by rw [Hlen.out], HPs.out, HM.out, hne, HbW.out⟩
  case rest =>
    clear HO HPs HV5 HbW5
    obtain ⟨ps, M, pb, cap, hlen, hsm, htl, rfl, hps, hmat, hne, hbw⟩ := hcut
    have HPs := hide hps
    have HM := hide hmat
    have HbW := hide hbw
    have Hsm := hide hsm
    have Htl := hide htl
    clear hps hmat hbw hsm htl
    go_upto_block 2 with (fail)
    go_cut [9] (fun _ wx => BoxAt wx g5 (matL (warK M 6)) ∧ PrsAt wx pb ps ∧ Below w.heap.size w wx)
    case first =>
      go_wp2_with fail
      go_loopw [9] (fun i wr => ∃ k : Nat, k ≤ 6 ∧ i = .int .i64 k ∧ BoxAt wr g5 (matL (warK M k)) ∧ PrsAt wr pb ps ∧ Below w.heap.size w wr) (fun i _ => 6 - (intOf i).toNat)
      case atStart => exact ⟨0, by omega, rfl, HM.out, HPs.out, HbW.out⟩
      case round =>
        clear HM HPs HbW
        obtain ⟨k, hk6, rfl, hmat, hps, hbw⟩ := hrel
        have HM := hide hmat
        have HPs := hide hps
        have HbW := hide hbw
        clear hmat hps hbw
        by_cases hk : k < 6
        · go_wp2_with fail
          have hkd : decide ((k : Int) < 6) = true := decide_eq_true (by omega)
          try simp only [hkd]
          clear hkd
          go_loopw [10] (fun i wr => ∃ a : Nat, a ≤ 6 ∧ i = .int .i64 a ∧ BoxAt wr g5 (matL (warA (warK M k) k a)) ∧ PrsAt wr pb ps ∧ Below w.heap.size w wr) (fun i _ => 6 - (intOf i).toNat)
          case atStart => exact ⟨0, by omega, rfl, HM.out, HPs.out, HbW.out⟩
          case round =>
            clear HM HPs HbW
            obtain ⟨a, ha7, rfl, hmat, hps, hbw⟩ := hrel
            have HM := hide hmat
            have HPs := hide hps
            have HbW := hide hbw
            clear hmat hps hbw
            by_cases ha6 : a < 6
            · go_wp2_with fail
              have had : decide ((a : Int) < 6) = true := decide_eq_true (by omega)
              try simp only [had]
              clear had
              go_loopw [11] (fun i wr => ∃ b : Nat, b ≤ 6 ∧ i = .int .i64 b ∧ BoxAt wr g5 (matL (warB (warA (warK M k) k a) k a b)) ∧ PrsAt wr pb ps ∧ Below w.heap.size w wr) (fun i _ => 6 - (intOf i).toNat)
              case atStart => exact ⟨0, by omega, rfl, HM.out, HPs.out, HbW.out⟩
              case round =>
                clear HM HPs HbW
                obtain ⟨b, hb7, rfl, hmat, hps, hbw⟩ := hrel
                have HM := hide hmat
                have HPs := hide hps
                have HbW := hide hbw
                clear hmat hps hbw
                by_cases hb6 : b < 6
                · obtain ⟨X, hX⟩ : ∃ X, X = warB (warA (warK M k) k a) k a b := ⟨_, rfl⟩
                  rw [← hX] at HM
                  have HX := hide hX
                  clear hX
                  have Hlt : Hid (g5 < wr.heap.size ∧ pb < wr.heap.size ∧ w.heap.size ≤ wr.heap.size) := hide ⟨HM.out.2.2, BoxAt.lt0 HPs.out, HbW.out.size⟩
                  go_upto_region 21 with (first
                    | ((with_reducible refine wpList_load_mid ?_ 25 (.tmp 76) ?_ (g5) (a * 6) ?_ (rowL X a) _ ?_ Tryz.underlying25 ?_ ?_ ?_); (focus rfl); (focus rfl); (focus rfl); (focus exact HM.out.sub (a * 6) (rowL X a) (matL_row X ha6)); (focus rfl); (focus kernel_rfl))
                    | ((with_reducible refine wpList_store_new ?_ ?_ 25 (.tmp 12) (.tmp 77) ?_ (rowL X a) ?_ ?_ ?_ ?_ ?_ ?_); (focus rfl); (focus rfl); (focus rfl); (focus rfl); (focus rfl); (focus rfl); (focus kernel_rfl); (focus exact rowL_one); intro V12 hV12 hbV12; have HV12 := hide hV12; have HbV12 := hide hbV12; clear hV12 hbV12; replace HM := hide (HM.out.below HbV12.out); replace HPs := hide (BoxAt.below HPs.out HbV12.out); replace HbW := hide (HbW.out.trans (HbV12.out.mono HbW.out.size))))
                  obtain ⟨g12, hq12⟩ : ∃ q, q = wr.heap.size := ⟨_, rfl⟩
                  have Hg12 : Hid (g5 ≠ g12 ∧ pb ≠ g12 ∧ w.heap.size ≤ g12) := hide (by have h1 := Hlt.out; omega)
                  rw [← hq12] at HV12 ⊢
                  clear hq12
                  have d0 : V12.cell? ⟨g12, b, none⟩ = some (.bool (X a b)) := HV12.out.1 b _ (rowL_get X a hb6)
                  have d1 : V12.cell? ⟨g12, k, none⟩ = some (.bool (X a k)) := HV12.out.1 k _ (rowL_get X a hk)
                  have d2 : V12.cell? ⟨g5, k * 6 + b, none⟩ = some (.bool (X k b)) := HM.out.1 _ _ (matL_get X hk hb6)
                  cases h1 : X a b
                  · cases h2 : X a k
                    · have hv : (X a b || (X a k && X k b)) = false := by rw [h1, h2]; rfl
                      rw [h1] at d0
                      rw [h2] at d1
                      go_wp2_with (first
                        | ((with_reducible refine wpList_store_cell ?_ ?_ ?_ 4 (.tmp 94) (.tmp 93) ?_ g12 b (rowL X a) (.bool false) (rowL (updM X a b false) a) ?_ ?_ ?_ ?_ ?_ ?_ ?_ ?_); (focus rfl); (focus rfl); (focus rfl); (focus rfl); (focus rfl); (focus rfl); (focus exact HV12.out); (focus (rw [rowL_len]; omega)); (focus exact (rowL_set X a hb6 false).symm); (focus rfl); (focus kernel_rfl); intro Vs hV hT; clear d0 d1 d2; replace HV12 := hide hV; replace HM := hide (HM.out.but hT (by have := Hg12.out; omega)); replace HPs := hide (BoxAt.but HPs.out hT (by have := Hg12.out; omega)); replace HbW := hide (HbW.out.trans (hT.below HbW.out.size (fun k hk => by have := Hg12.out; omega))); clear hV hT)
                        | ((with_reducible refine wpList_load_mid ?_ 25 (.tmp 12) ?_ (g12) (0) ?_ (rowL (updM X a b false) a) _ ?_ Tryz.underlying25 ?_ ?_ ?_); (focus rfl); (focus rfl); (focus rfl); (focus exact HV12.out.whole); (focus rfl); (focus kernel_rfl))
                        | ((with_reducible refine wpList_store_in ?_ ?_ 25 (.tmp 97) (.tmp 96) ?_ g5 (a * 6) (matL X) (rowL (updM X a b false) a) (matL (updM X a b false)) ?_ ?_ ?_ ?_ ?_ ?_ ?_ ?_); (focus rfl); (focus rfl); (focus rfl); (focus rfl); (focus rfl); (focus exact HM.out); (focus (rw [matL_len, rowL_len]; omega)); (focus exact matL_put X ha6 hb6 false); (focus kernel_rfl); (focus exact rowL_one); intro V97 hV hT; have HM2 := hide hV; replace HPs := hide (BoxAt.but HPs.out hT hne); replace HbW := hide (HbW.out.trans (hT.below HbW.out.size (fun k hk => by omega))); clear hV hT))
                      have hst : stepW X k a b = updM X a b false := by
                        funext i j
                        unfold stepW updM
                        rw [hv]
                      go_roundw
                      case rel => exact ⟨b + 1, by omega, by go_num, by rw [warB_succ, ← HX.out, hst]; exact HM2.out, HPs.out, HbW.out⟩
                      case measure => simp [intOf]; omega
                    · cases h3 : X k b
                      · have hv : (X a b || (X a k && X k b)) = false := by rw [h1, h2, h3]; rfl
                        rw [h1] at d0
                        rw [h2] at d1
                        rw [h3] at d2
                        go_wp2_with (first
                          | ((with_reducible refine wpList_store_cell ?_ ?_ ?_ 4 (.tmp 94) (.tmp 93) ?_ g12 b (rowL X a) (.bool false) (rowL (updM X a b false) a) ?_ ?_ ?_ ?_ ?_ ?_ ?_ ?_); (focus rfl); (focus rfl); (focus rfl); (focus rfl); (focus rfl); (focus rfl); (focus exact HV12.out); (focus (rw [rowL_len]; omega)); (focus exact (rowL_set X a hb6 false).symm); (focus rfl); (focus kernel_rfl); intro Vs hV hT; clear d0 d1 d2; replace HV12 := hide hV; replace HM := hide (HM.out.but hT (by have := Hg12.out; omega)); replace HPs := hide (BoxAt.but HPs.out hT (by have := Hg12.out; omega)); replace HbW := hide (HbW.out.trans (hT.below HbW.out.size (fun k hk => by have := Hg12.out; omega))); clear hV hT)
                          | ((with_reducible refine wpList_load_mid ?_ 25 (.tmp 12) ?_ (g12) (0) ?_ (rowL (updM X a b false) a) _ ?_ Tryz.underlying25 ?_ ?_ ?_); (focus rfl); (focus rfl); (focus rfl); (focus exact HV12.out.whole); (focus rfl); (focus kernel_rfl))
                          | ((with_reducible refine wpList_store_in ?_ ?_ 25 (.tmp 97) (.tmp 96) ?_ g5 (a * 6) (matL X) (rowL (updM X a b false) a) (matL (updM X a b false)) ?_ ?_ ?_ ?_ ?_ ?_ ?_ ?_); (focus rfl); (focus rfl); (focus rfl); (focus rfl); (focus rfl); (focus exact HM.out); (focus (rw [matL_len, rowL_len]; omega)); (focus exact matL_put X ha6 hb6 false); (focus kernel_rfl); (focus exact rowL_one); intro V97 hV hT; have HM2 := hide hV; replace HPs := hide (BoxAt.but HPs.out hT hne); replace HbW := hide (HbW.out.trans (hT.below HbW.out.size (fun k hk => by omega))); clear hV hT))
                        have hst : stepW X k a b = updM X a b false := by
                          funext i j
                          unfold stepW updM
                          rw [hv]
                        go_roundw
                        case rel => exact ⟨b + 1, by omega, by go_num, by rw [warB_succ, ← HX.out, hst]; exact HM2.out, HPs.out, HbW.out⟩
                        case measure => simp [intOf]; omega
                      · have hv : (X a b || (X a k && X k b)) = true := by rw [h1, h2, h3]; rfl
                        rw [h1] at d0
                        rw [h2] at d1
                        rw [h3] at d2
                        go_wp2_with (first
                          | ((with_reducible refine wpList_store_cell ?_ ?_ ?_ 4 (.tmp 94) (.tmp 93) ?_ g12 b (rowL X a) (.bool true) (rowL (updM X a b true) a) ?_ ?_ ?_ ?_ ?_ ?_ ?_ ?_); (focus rfl); (focus rfl); (focus rfl); (focus rfl); (focus rfl); (focus rfl); (focus exact HV12.out); (focus (rw [rowL_len]; omega)); (focus exact (rowL_set X a hb6 true).symm); (focus rfl); (focus kernel_rfl); intro Vs hV hT; clear d0 d1 d2; replace HV12 := hide hV; replace HM := hide (HM.out.but hT (by have := Hg12.out; omega)); replace HPs := hide (BoxAt.but HPs.out hT (by have := Hg12.out; omega)); replace HbW := hide (HbW.out.trans (hT.below HbW.out.size (fun k hk => by have := Hg12.out; omega))); clear hV hT)
                          | ((with_reducible refine wpList_load_mid ?_ 25 (.tmp 12) ?_ (g12) (0) ?_ (rowL (updM X a b true) a) _ ?_ Tryz.underlying25 ?_ ?_ ?_); (focus rfl); (focus rfl); (focus rfl); (focus exact HV12.out.whole); (focus rfl); (focus kernel_rfl))
                          | ((with_reducible refine wpList_store_in ?_ ?_ 25 (.tmp 97) (.tmp 96) ?_ g5 (a * 6) (matL X) (rowL (updM X a b true) a) (matL (updM X a b true)) ?_ ?_ ?_ ?_ ?_ ?_ ?_ ?_); (focus rfl); (focus rfl); (focus rfl); (focus rfl); (focus rfl); (focus exact HM.out); (focus (rw [matL_len, rowL_len]; omega)); (focus exact matL_put X ha6 hb6 true); (focus kernel_rfl); (focus exact rowL_one); intro V97 hV hT; have HM2 := hide hV; replace HPs := hide (BoxAt.but HPs.out hT hne); replace HbW := hide (HbW.out.trans (hT.below HbW.out.size (fun k hk => by omega))); clear hV hT))
                        have hst : stepW X k a b = updM X a b true := by
                          funext i j
                          unfold stepW updM
                          rw [hv]
                        go_roundw
                        case rel => exact ⟨b + 1, by omega, by go_num, by rw [warB_succ, ← HX.out, hst]; exact HM2.out, HPs.out, HbW.out⟩
                        case measure => simp [intOf]; omega
                  · have hv : (X a b || (X a k && X k b)) = true := by rw [h1]; rfl
                    rw [h1] at d0
                    go_wp2_with (first
                      | ((with_reducible refine wpList_store_cell ?_ ?_ ?_ 4 (.tmp 94) (.tmp 93) ?_ g12 b (rowL X a) (.bool true) (rowL (updM X a b true) a) ?_ ?_ ?_ ?_ ?_ ?_ ?_ ?_); (focus rfl); (focus rfl); (focus rfl); (focus rfl); (focus rfl); (focus rfl); (focus exact HV12.out); (focus (rw [rowL_len]; omega)); (focus exact (rowL_set X a hb6 true).symm); (focus rfl); (focus kernel_rfl); intro Vs hV hT; clear d0 d1 d2; replace HV12 := hide hV; replace HM := hide (HM.out.but hT (by have := Hg12.out; omega)); replace HPs := hide (BoxAt.but HPs.out hT (by have := Hg12.out; omega)); replace HbW := hide (HbW.out.trans (hT.below HbW.out.size (fun k hk => by have := Hg12.out; omega))); clear hV hT)
                      | ((with_reducible refine wpList_load_mid ?_ 25 (.tmp 12) ?_ (g12) (0) ?_ (rowL (updM X a b true) a) _ ?_ Tryz.underlying25 ?_ ?_ ?_); (focus rfl); (focus rfl); (focus rfl); (focus exact HV12.out.whole); (focus rfl); (focus kernel_rfl))
                      | ((with_reducible refine wpList_store_in ?_ ?_ 25 (.tmp 97) (.tmp 96) ?_ g5 (a * 6) (matL X) (rowL (updM X a b true) a) (matL (updM X a b true)) ?_ ?_ ?_ ?_ ?_ ?_ ?_ ?_); (focus rfl); (focus rfl); (focus rfl); (focus rfl); (focus rfl); (focus exact HM.out); (focus (rw [matL_len, rowL_len]; omega)); (focus exact matL_put X ha6 hb6 true); (focus kernel_rfl); (focus exact rowL_one); intro V97 hV hT; have HM2 := hide hV; replace HPs := hide (BoxAt.but HPs.out hT hne); replace HbW := hide (HbW.out.trans (hT.below HbW.out.size (fun k hk => by omega))); clear hV hT))
                    have hst : stepW X k a b = updM X a b true := by
                      funext i j
                      unfold stepW updM
                      rw [hv]
                    go_roundw
                    case rel => exact ⟨b + 1, by omega, by go_num, by rw [warB_succ, ← HX.out, hst]; exact HM2.out, HPs.out, HbW.out⟩
                    case measure => simp [intOf]; omega
                · obtain rfl : b = 6 := by omega
                  go_wp2_with fail
                  go_roundw
                  case rel => exact ⟨a + 1, by omega, by go_num, by rw [warA_succ]; exact HM.out, HPs.out, HbW.out⟩
                  case measure => simp [intOf]; omega
            · obtain rfl : a = 6 := by omega
              go_wp2_with fail
              go_roundw
              case rel => exact ⟨k + 1, by omega, by go_num, by rw [warK_succ]; exact HM.out, HPs.out, HbW.out⟩
              case measure => simp [intOf]; omega
        · obtain rfl : k = 6 := by omega
          go_wp2_with fail
          go_meet
          exact ⟨HM.out, HPs.out, HbW.out⟩
    case rest =>
      clear HM HPs HbW
      obtain ⟨hmat, hps, hbw⟩ := hcut
      have HM := hide hmat
      have HPs := hide hps
      have HbW := hide hbw
      clear hmat hps hbw
      obtain ⟨N, hN⟩ : ∃ N, N = warK M 6 := ⟨_, rfl⟩
      have HN := hide (table_says Hsm.out Htl.out hN)
      rw [← hN] at HM
      clear hN
      go_upto_block 8 with (go_at_call 5; refine (circles_any ps pb cap _ (by omega) HPs.out).mono ?_; rintro e w2 ⟨gc, capc, rs, rfl, hmem, hsrt, hprc, hgc, hb⟩; have Hmem := hide hmem; have Hsrt := hide hsrt; have HCr := hide hprc; replace HM := hide (HM.out.below hb); replace HPs := hide (BoxAt.below HPs.out hb); replace HbW := hide (HbW.out.trans (hb.mono HbW.out.size)); clear hmem hsrt hprc hgc hb)
      have hrl : rs.length ≤ 14 := Nat.le_trans (rs_len Hmem.out Hsrt.out) hlen
      have HO : Hid ((w2.alloc (.cells #[] 29)).ownsRow w2.heap.size 29 3 (.slice (some ⟨w2.heap.size, 0, none⟩) 0 0) 0 []) := hide ⟨by simp, .inr ⟨w2.heap.size, 0, #[], rfl, Nat.le_refl _, Go.heap_alloc_new w2 _, by omega, by unfold maxLen; omega, rfl, rfl⟩⟩
      have HR : Hid (PrsAt (w2.alloc (.cells #[] 29)) w2.heap.size []) := hide (BoxAt.new w2 [] 29)
      have Hb3 : Hid (Below w2.heap.size w2 (w2.alloc (.cells #[] 29))) := hide ((Below.refl _ w2).alloc (Nat.le_refl _) _)
      obtain ⟨V3, hV3⟩ : ∃ V, V = w2.alloc (.cells #[] 29) := ⟨_, rfl⟩
      rw [← hV3] at HO HR Hb3 ⊢
      clear hV3
      have Hlt : Hid (gc < w2.heap.size ∧ pb < w2.heap.size ∧ g5 < w2.heap.size ∧ w.heap.size ≤ w2.heap.size) := hide ⟨BoxAt.lt0 HCr.out, BoxAt.lt0 HPs.out, HM.out.2.2, HbW.out.size⟩
      obtain ⟨B3, hB3⟩ : ∃ q, q = w2.heap.size := ⟨_, rfl⟩
      rw [← hB3] at HO HR Hb3 Hlt ⊢
      have Heq := hide hB3
      clear hB3
      go_cut [14] (fun t wx => RestRel ps B3 ps.length t wx ∧ Below B3 w2 wx)
      case first =>
        go_wp2_with fail
        go_loopw [15, 14] (fun i t wr => ∃ j : Nat, j ≤ ps.length ∧ i = .int .i64 j ∧ RestRel ps B3 j t wr ∧ Below B3 w2 wr) (fun i _ _ => ps.length - (intOf i).toNat)
        case atStart => exact ⟨0, by omega, rfl, ⟨B3, 0, rfl, HO.out, HR.out⟩, Hb3.out⟩
        case round =>
          clear HO HR Hb3
          obtain ⟨j, hj, rfl, ⟨gr, capr, rfl, hown, hrr⟩, hbr⟩ := hrel
          obtain ⟨wo, hwo⟩ : ∃ q, q = wr := ⟨_, rfl⟩
          rw [← hwo] at hown hrr hbr ⊢
          clear hwo
          have HO := hide hown
          have HR := hide hrr
          have Hbr := hide hbr
          clear hown hrr hbr
          by_cases hjl : j < ps.length
          · have hx : ps[j]? = some ps[j] := List.getElem?_eq_getElem hjl
            obtain ⟨x, hxe⟩ : ∃ q, q = ps[j] := ⟨_, rfl⟩
            rw [← hxe] at hx
            clear hxe
            have Hx := hide hx
            have HCr1 := hide (BoxAt.lo HCr.out Hbr.out Hlt.out.1)
            have HPp1 := hide (BoxAt.lo HPs.out Hbr.out Hlt.out.2.1)
            have HM1 := hide (BoxAt.lo HM.out Hbr.out Hlt.out.2.2.1)
            clear hx
            go_upto_block 10 with (fail)
            go_cut [16] (fun t wx => t = .bool (decide (x ∈ rs)) ∧ Below wo.heap.size wo wx)
            case first =>
                go_wp2_with fail
                go_loopw [17, 16] (fun i t wq => ∃ k : Nat, k ≤ rs.length ∧ i = .int .i64 k ∧ t = .bool (decide (x ∈ rs.take k)) ∧ Below wo.heap.size wo wq) (fun i _ _ => rs.length - (intOf i).toNat)
                case atStart => exact ⟨0, by omega, rfl, by simp, Below.refl _ _⟩
                case round =>
                  obtain ⟨k, hk, rfl, rfl, hbi⟩ := hrel
                  have HbI := hide hbi
                  clear hbi
                  by_cases hkl : k < rs.length
                  · have hy : rs[k]? = some rs[k] := List.getElem?_eq_getElem hkl
                    obtain ⟨y, hye⟩ : ∃ q, q = rs[k] := ⟨_, rfl⟩
                    rw [← hye] at hy
                    clear hye
                    have Hy := hide hy
                    clear hy
                    by_cases hin : x ∈ rs.take k
                    · have hd : decide (x ∈ rs.take k) = true := decide_eq_true hin
                      rw [hd]
                      clear hd
                      go_upto_region 31 with (fail)
                      go_quiet (fail)
                      go_wp2_with fail
                      go_roundw
                      case rel => exact ⟨k + 1, by omega, by go_num, by rw [decide_eq_true (show x ∈ rs.take (k + 1) by rw [List.take_add_one]; exact List.mem_append_left _ hin)], HbI.out.trans ((below_drewN (Below.refl _ _) _).mono HbI.out.size)⟩
                      case measure => simp [intOf]; omega
                    · have hd : decide (x ∈ rs.take k) = false := decide_eq_false hin
                      rw [hd]
                      clear hd
                      have HCr := hide (BoxAt.below HCr1.out HbI.out)
                      have HPp := hide (BoxAt.below HPp1.out HbI.out)
                      go_upto_region 31 with (fail)
                      refine wp_region_held_drew (S := fun w' => PrsAt w' gc rs ∧ PrsAt w' pb ps) (by kernel_rfl) ?_ (fun hHeld => ?_)
                      · exact ⟨BoxAt.below HCr.out (Below.refl _ _).drew, BoxAt.below HPp.out (Below.refl _ _).drew⟩
                      generalize hw0 : World.drew wr = z3 at hHeld ⊢
                      have HB0 : Hid (Below wr.heap.size wr z3) := hide (by rw [← hw0]; exact (Below.refl _ wr).drew)
                      replace HbI := hide (HbI.out.trans (HB0.out.mono HbI.out.size))
                      clear hw0
                      refine take_as 0 (some 113) (v := ?_) rfl rfl (by kernel_rfl) (by kernel_rfl) (by kernel_rfl) (fun _ _ _ h => h) (Or.inl ⟨by rfl, ?_⟩) (by assumption) ?_
                      rotate_left 1
                      · intro w2 hSw
                        go_simp
                        try with_reducible rfl
                      try simp only [Act.put, List.setIfInBounds_toArray, List.set_cons_zero, List.set_cons_succ]
                      refine take_as 1 (some 114) (v := ?_) rfl rfl (by kernel_rfl) (by kernel_rfl) (by kernel_rfl) (fun _ _ _ h => h) (Or.inl ⟨by rfl, ?_⟩) (by assumption) ?_
                      rotate_left 1
                      · intro w2 hSw
                        go_simp
                        try with_reducible rfl
                      try simp only [Act.put, List.setIfInBounds_toArray, List.set_cons_zero, List.set_cons_succ]
                      refine take_as 2 (some 115) (v := ?_) rfl rfl (by kernel_rfl) (by kernel_rfl) (by kernel_rfl) (fun _ _ _ h => h) (Or.inl ⟨by rfl, ?_⟩) (by assumption) ?_
                      rotate_left 1
                      · intro w2 hSw
                        go_simp
                        try with_reducible rfl
                      try simp only [Act.put, List.setIfInBounds_toArray, List.set_cons_zero, List.set_cons_succ]
                      refine take_as 3 (some 116) (v := ?_) rfl rfl (by kernel_rfl) (by kernel_rfl) (by kernel_rfl) (fun _ _ _ h => h) (Or.inl ⟨by rfl, ?_⟩) (by assumption) ?_
                      rotate_left 1
                      · intro w2 hSw
                        go_simp
                        try with_reducible rfl
                      try simp only [Act.put, List.setIfInBounds_toArray, List.set_cons_zero, List.set_cons_succ]
                      refine take_as 4 (some 117) (v := ?_) rfl rfl (by kernel_rfl) (by kernel_rfl) (by kernel_rfl) (fun _ _ _ h => h) (Or.inl ⟨by rfl, ?_⟩) (by assumption) ?_
                      rotate_left 1
                      · intro w2 hSw
                        go_simp
                        try with_reducible rfl
                      try simp only [Act.put, List.setIfInBounds_toArray, List.set_cons_zero, List.set_cons_succ]
                      refine take_as 5 (some 118) rfl rfl (by kernel_rfl) (by kernel_rfl) (by kernel_rfl) (fun _ _ _ h => h) (yieldsIf_load_mid (by rfl) 29 (.tmp 117) rfl gc (k * 3) rfl (prV y) _ (fun w2 hSw => PrsAt.at hSw.1 Hy.out) Tryz.underlying29 rfl (by kernel_rfl)) (by assumption) ?_
                      try simp only [Act.put, List.setIfInBounds_toArray, List.set_cons_zero, List.set_cons_succ]
                      refine take_as 6 (some 119) (v := ?_) rfl rfl (by kernel_rfl) (by kernel_rfl) (by kernel_rfl) (fun _ _ _ h => h) (Or.inl ⟨by rfl, ?_⟩) (by assumption) ?_
                      rotate_left 1
                      · intro w2 hSw
                        go_simp
                        try with_reducible rfl
                      try simp only [Act.put, List.setIfInBounds_toArray, List.set_cons_zero, List.set_cons_succ]
                      refine take_as 7 (some 120) (v := ?_) rfl rfl (by kernel_rfl) (by kernel_rfl) (by kernel_rfl) (fun _ _ _ h => h) (Or.inl ⟨by rfl, ?_⟩) (by assumption) ?_
                      rotate_left 1
                      · intro w2 hSw
                        go_simp
                        try with_reducible rfl
                      try simp only [Act.put, List.setIfInBounds_toArray, List.set_cons_zero, List.set_cons_succ]
                      refine take_as 8 (some 121) (v := ?_) rfl rfl (by kernel_rfl) (by kernel_rfl) (by kernel_rfl) (fun _ _ _ h => h) (Or.inl ⟨by rfl, ?_⟩) (by assumption) ?_
                      rotate_left 1
                      · intro w2 hSw
                        go_simp
                        try with_reducible rfl
                      try simp only [Act.put, List.setIfInBounds_toArray, List.set_cons_zero, List.set_cons_succ]
                      refine take_as 9 (some 122) rfl rfl (by kernel_rfl) (by kernel_rfl) (by kernel_rfl) (fun _ _ _ h => h) (yieldsIf_load_mid (by rfl) 29 (.tmp 121) rfl pb (j * 3) rfl (prV x) _ (fun w2 hSw => PrsAt.at hSw.2 Hx.out) Tryz.underlying29 rfl (by kernel_rfl)) (by assumption) ?_
                      try simp only [Act.put, List.setIfInBounds_toArray, List.set_cons_zero, List.set_cons_succ]
                      refine take_as 10 (some 123) (v := ?_) rfl rfl (by kernel_rfl) (by kernel_rfl) (by kernel_rfl) (fun _ _ _ h => h) (Or.inl ⟨by rfl, ?_⟩) (by assumption) ?_
                      rotate_left 1
                      · intro w2 hSw
                        refine exec_eql_pair (.tmp 118) (.tmp 122) ?_ y x ?_ ?_ w2 <;> rfl
                        try with_reducible rfl
                      try simp only [Act.put, List.setIfInBounds_toArray, List.set_cons_zero, List.set_cons_succ]
                      refine take_as 11 (some 124) (v := ?_) rfl rfl (by kernel_rfl) (by kernel_rfl) (by kernel_rfl) (fun _ _ _ h => h) (Or.inl ⟨by rfl, ?_⟩) (by assumption) ?_
                      rotate_left 1
                      · intro w2 hSw
                        go_simp
                        try with_reducible rfl
                      try simp only [Act.put, List.setIfInBounds_toArray, List.set_cons_zero, List.set_cons_succ]
                      refine take_as 12 (some 16) (v := ?_) rfl rfl (by kernel_rfl) (by kernel_rfl) (by kernel_rfl) (fun _ _ _ h => h) (Or.inl ⟨by rfl, ?_⟩) (by assumption) ?_
                      rotate_left 1
                      · intro w2 hSw
                        go_simp
                        try with_reducible rfl
                      try simp only [Act.put, List.setIfInBounds_toArray, List.set_cons_zero, List.set_cons_succ]
                      refine wpAnyH_done (by kernel_rfl) ?_ _
                      go_wp2_with fail
                      go_roundw
                      case rel =>
                        refine ⟨k + 1, by omega, by go_num, ?_, HbI.out⟩
                        congr 1
                        rw [Bool.eq_iff_iff, decide_eq_true_iff, decide_eq_true_iff, List.take_add_one, Hy.out, List.mem_append]
                        constructor
                        · intro h; exact .inr (by simp [h])
                        · rintro (h | h)
                          · exact absurd h hin
                          · simpa [eq_comm] using h
                      case measure => simp [intOf]; omega
                  · obtain rfl : k = rs.length := by omega
                    go_wp2_with fail
                    go_meet
                    exact ⟨by rw [List.take_length], HbI.out⟩
            case rest =>
              obtain ⟨rfl, hbi⟩ := hcut
              have HbI := hide hbi
              clear hbi
              have HO2 := hide (own_new HO.out HbI.out)
              have HR2 := hide (BoxAt.below HR.out HbI.out)
              have HPp := hide (BoxAt.below HPp1.out HbI.out)
              have HM2 := hide (HM1.out.below HbI.out)
              have Hbr2 := hide (Hbr.out.trans (HbI.out.mono (by have h1 := Hbr.out.size; have h2 := Heq.out; omega)))
              obtain ⟨a, b, s, hxe, ha6, hb6⟩ := Hsm.out x (List.mem_of_getElem? Hx.out)
              subst hxe
              have hxm : trN a b s ∈ ps := List.mem_of_getElem? Hx.out
              have hrl2 := rest_len ps j
              have e0 : wc.cell? ⟨pb, j * 3, none⟩ = some (.int .i64 a) := (PrsAt.at HPp.out Hx.out) 0 _ rfl
              have e1 : wc.cell? ⟨pb, j * 3 + 1, none⟩ = some (.int .i64 b) := (PrsAt.at HPp.out Hx.out) 1 _ rfl
              have e2 : wc.cell? ⟨g5, b * 6 + a, none⟩ = some (.bool (N b a)) := HM2.out.1 _ _ (matL_get N hb6 ha6)
              have hbz : ∀ k, Below wc.heap.size wc (wc.drewN k) := fun k => below_drewN (Below.refl _ _) _
              have Hbz := hide hbz
              clear hbz
              by_cases hab : a = b
              · subst hab
                have hw : PWay ps ((trN a a s).2.1) ((trN a a s).1) := .here _
                have hin : trN a a s ∈ rs := (Hmem.out _).2 ⟨hxm, hw⟩
                have hon : onC ps (trN a a s) = true := (onC_is _ _).2 hw
                rw [decide_eq_true hin]
                clear hin hw
                go_upto_region 32 with (fail)
                go_quiet (fail)
                go_wp2_with fail
                go_roundw
                case rel => exact ⟨j + 1, by omega, by go_num, ⟨gr, capr, by rw [rest_on Hx.out hon], by rw [rest_on Hx.out hon]; exact own_new HO2.out (Hbz.out _), by rw [rest_on Hx.out hon]; exact BoxAt.below HR2.out (Hbz.out _)⟩, Hbr2.out.trans ((Hbz.out _).mono (by have h1 := Hbr2.out.size; have h2 := Heq.out; omega))⟩
                case measure => simp [intOf]; omega
              · have hne1 : ¬ ((a : Int) = (b : Int)) := by omega
                have hne2 : ((a : Int) == (b : Int)) = false := by simpa using hne1
                cases hN : N b a
                · have hw : ¬ PWay ps ((trN a b s).2.1) ((trN a b s).1) := fun h => by
                    rcases (HN.out a b).1 h with h | h
                    · exact hab h
                    · rw [hN] at h; cases h
                  have hin : trN a b s ∉ rs := fun h => hw ((Hmem.out _).1 h).2
                  have hon : onC ps (trN a b s) = false := by rw [← Bool.not_eq_true, onC_is]; exact hw
                  rw [decide_eq_false hin]
                  rw [hN] at e2
                  clear hin hw
                  go_upto_region 32 with (fail)
                  go_quiet (fail)
                  go_upto_region 36 with (fail)
                  clear e0 e1 e2
                  obtain ⟨wz, hwz⟩ : ∃ V, V = wc.drewN nq := ⟨_, rfl⟩
                  have hb := Hbz.out nq
                  rw [← hwz] at hb ⊢
                  clear hwz
                  replace HO2 := hide (own_new HO2.out hb)
                  replace HPp := hide (BoxAt.below HPp.out hb)
                  replace Hbr2 := hide (Hbr2.out.trans (hb.mono (by have h1 := Hbr2.out.size; have h2 := Heq.out; omega)))
                  have Hbs : Hid (B3 ≤ wz.heap.size) := hide (by have h1 := Hbr2.out.size; have h2 := Heq.out; omega)
                  clear hb
                  go_wp2_with (first
                    | ((with_reducible refine wpList_load_mid ?_ 29 (.tmp 159) ?_ (pb) ((j * 3)) ?_ (prV (trN a b s)) _ ?_ Tryz.underlying29 ?_ ?_ ?_); (focus rfl); (focus rfl); (focus rfl); (focus exact PrsAt.at HPp.out Hx.out); (focus rfl); (focus kernel_rfl))
                    | ((with_reducible refine wpList_buildSlice_one ?_ ?_ 24 29 3 24 elemPair (.tmp 160) ?_ (.agg ((prV (trN a b s))).toArray) ((prV (trN a b s))) ?_ ?_ ?_ ?_ ?_); (focus rfl); (focus rfl); (focus rfl); (focus rfl); (focus rfl); (focus rfl); (focus decide); intro gb Vb hVb hgVb hbVb; have HGB := hide hVb; replace HO2 := hide (own_below HO2.out hbVb); replace Hbr2 := hide (Hbr2.out.trans (hbVb.mono Hbs.out)); replace Hbs := hide (Nat.le_trans Hbs.out hbVb.size); clear hVb hgVb hbVb)
                    | ((with_reducible refine wpList_append_to ?_ ?_ (.tmp 156) (.tmp 161) 24 29 3 24 elemPair ?_ B3 (.slice (some ⟨gr, 0, none⟩) (restOf ps j).length capr) (restOf ps j).length ((restOf ps j).flatMap prV) ?_ HO2.out gb 1 1 (prV (trN a b s)) ?_ ?_ ?_ ?_ ?_ ?_ ?_ ?_); (focus rfl); (focus rfl); (focus rfl); (focus rfl); (focus rfl); (focus exact HGB.out); (focus rfl); (focus exact prV_one); (focus omega); (focus omega); (focus exact Hbs.out); intro gn cn Vc hap; have HO3 := hide hap.own; have HR3 := hide hap.box; replace Hbr2 := hide (Hbr2.out.trans (hap.but.below Hbs.out (fun k hk => (HO2.out.lt k hk).1))); clear hap))
                  go_roundw
                  case rel => exact ⟨j + 1, by omega, by go_num, ⟨gn, cn, by rw [rest_off Hx.out hon, List.length_append]; rfl, by rw [rest_off Hx.out hon, prs_snoc, List.length_append]; exact HO3.out, by rw [rest_off Hx.out hon]; unfold PrsAt; rw [prs_snoc]; exact HR3.out⟩, Hbr2.out⟩
                  case measure => simp [intOf]; omega
                · have hw : PWay ps ((trN a b s).2.1) ((trN a b s).1) := (HN.out a b).2 (.inr hN)
                  have hin : trN a b s ∈ rs := (Hmem.out _).2 ⟨hxm, hw⟩
                  have hon : onC ps (trN a b s) = true := (onC_is _ _).2 hw
                  rw [decide_eq_true hin]
                  rw [hN] at e2
                  clear hin hw
                  go_upto_region 32 with (fail)
                  go_quiet (fail)
                  go_wp2_with fail
                  go_roundw
                  case rel => exact ⟨j + 1, by omega, by go_num, ⟨gr, capr, by rw [rest_on Hx.out hon], by rw [rest_on Hx.out hon]; exact own_new HO2.out (Hbz.out _), by rw [rest_on Hx.out hon]; exact BoxAt.below HR2.out (Hbz.out _)⟩, Hbr2.out.trans ((Hbz.out _).mono (by have h1 := Hbr2.out.size; have h2 := Heq.out; omega))⟩
                  case measure => simp [intOf]; omega
          · obtain rfl : j = ps.length := by omega
            go_wp2_with fail
            go_meet
            exact ⟨⟨gr, capr, rfl, HO.out, HR.out⟩, Hbr.out⟩
      case rest =>
        obtain ⟨⟨gr, capr, rfl, hown, hrr⟩, hbr⟩ := hcut
        clear hown HO HR Hb3
        have HCr1 := hide (BoxAt.lo HCr.out hbr Hlt.out.1)
        have HR1 := hide hrr
        have HbW2 := hide (HbW.out.trans (hbr.mono Hlt.out.2.2.2))
        have hrl2 := rest_len ps ps.length
        have hgc : gc < wc.heap.size := BoxAt.lt0 HCr1.out
        clear hrr hbr
        go_upto_block 12 with (fail)
        go_wp2_with fail
        go_loopw [19] (fun i wr => ∃ k : Nat, 1 ≤ k ∧ k ≤ rs.length + 1 ∧ i = .int .i64 k ∧ Below wc.heap.size wc wr) (fun i _ => rs.length - (intOf i).toNat)
        case atStart => exact ⟨1, by omega, by omega, rfl, Below.refl _ _⟩
        case round =>
          obtain ⟨k, hk1, hk2, rfl, hbi⟩ := hrel
          have HbI := hide hbi
          clear hbi
          by_cases hkl : k < rs.length
          · have hq : rs[k]? = some rs[k] := List.getElem?_eq_getElem hkl
            have hp : rs[k - 1]? = some rs[k - 1] := List.getElem?_eq_getElem (by omega)
            have hpq : Tlt rs[k - 1] rs[k] := (List.pairwise_iff_getElem.1 Hsrt.out) (k - 1) k (by omega) (by omega) (by omega)
            obtain ⟨p, hpe⟩ : ∃ q, q = rs[k - 1] := ⟨_, rfl⟩
            obtain ⟨q, hqe⟩ : ∃ q, q = rs[k] := ⟨_, rfl⟩
            rw [← hpe] at hp hpq
            rw [← hqe] at hq hpq
            clear hpe hqe
            obtain ⟨p1, p2, p3⟩ := p
            obtain ⟨q1, q2, q3⟩ := q
            have Hp := hide hp
            have Hq := hide hq
            unfold Tlt at hpq
            simp only at hpq
            clear hp hq
            have hwr : IntKind.i64.wrap ((k : Int) - 1) = ((k - 1 : Nat) : Int) := by rw [show ((k : Int) - 1) = ((k - 1 : Nat) : Int) by omega]; exact wrap_nat _ (by omega)
            have hk3 : k - 1 < rs.length := by omega
            have HCr2 := hide (BoxAt.below HCr1.out HbI.out)
            go_upto_region 40 with (fail)
            refine wp_region_held_drew (S := fun w' => PrsAt w' gc rs) (by kernel_rfl) ?_ (fun hHeld => ?_)
            · exact BoxAt.below HCr2.out (Below.refl _ _).drew
            generalize hw0 : World.drew wr = z4 at hHeld ⊢
            have HB0 : Hid (Below wr.heap.size wr z4) := hide (by rw [← hw0]; exact (Below.refl _ wr).drew)
            replace HCr2 := hide (BoxAt.below HCr2.out HB0.out)
            replace HbI := hide (HbI.out.trans (HB0.out.mono HbI.out.size))
            clear hw0
            refine take_as 0 (some 169) (v := ?_) rfl rfl (by kernel_rfl) (by kernel_rfl) (by kernel_rfl) (fun _ _ _ h => h) (Or.inl ⟨by rfl, ?_⟩) (by assumption) ?_
            rotate_left 1
            · intro w2 hSw
              go_simp
              try with_reducible rfl
            try simp only [Act.put, List.setIfInBounds_toArray, List.set_cons_zero, List.set_cons_succ]
            refine take_as 1 (some 170) (v := ?_) rfl rfl (by kernel_rfl) (by kernel_rfl) (by kernel_rfl) (fun _ _ _ h => h) (Or.inl ⟨by rfl, ?_⟩) (by assumption) ?_
            rotate_left 1
            · intro w2 hSw
              go_simp
              try with_reducible rfl
            try simp only [Act.put, List.setIfInBounds_toArray, List.set_cons_zero, List.set_cons_succ]
            refine take_as 2 (some 171) (v := ?_) rfl rfl (by kernel_rfl) (by kernel_rfl) (by kernel_rfl) (fun _ _ _ h => h) (Or.inl ⟨by rfl, ?_⟩) (by assumption) ?_
            rotate_left 1
            · intro w2 hSw
              go_simp
              try with_reducible rfl
            try simp only [Act.put, List.setIfInBounds_toArray, List.set_cons_zero, List.set_cons_succ]
            refine take_as 3 (some 172) (v := ?_) rfl rfl (by kernel_rfl) (by kernel_rfl) (by kernel_rfl) (fun _ _ _ h => h) (Or.inl ⟨by rfl, ?_⟩) (by assumption) ?_
            rotate_left 1
            · intro w2 hSw
              go_simp
              try with_reducible rfl
            try simp only [Act.put, List.setIfInBounds_toArray, List.set_cons_zero, List.set_cons_succ]
            refine take_as 4 (some 173) rfl rfl (by kernel_rfl) (by kernel_rfl) (by kernel_rfl) (fun _ _ _ h => h) (yieldsIf_load_mid (by rfl) 29 (.tmp 172) rfl gc ((k - 1) * 3) rfl (prV (p1, p2, p3)) _ (fun w2 hSw => PrsAt.at hSw Hp.out) Tryz.underlying29 rfl (by kernel_rfl)) (by assumption) ?_
            try simp only [Act.put, List.setIfInBounds_toArray, List.set_cons_zero, List.set_cons_succ]
            refine take_as 5 (some 174) (v := ?_) rfl rfl (by kernel_rfl) (by kernel_rfl) (by kernel_rfl) (fun _ _ _ h => h) (Or.inl ⟨by rfl, ?_⟩) (by assumption) ?_
            rotate_left 1
            · intro w2 hSw
              go_simp
              try with_reducible rfl
            try simp only [Act.put, List.setIfInBounds_toArray, List.set_cons_zero, List.set_cons_succ]
            refine take_as 6 (some 175) (v := ?_) rfl rfl (by kernel_rfl) (by kernel_rfl) (by kernel_rfl) (fun _ _ _ h => h) (Or.inl ⟨by rfl, ?_⟩) (by assumption) ?_
            rotate_left 1
            · intro w2 hSw
              go_simp
              try with_reducible rfl
            try simp only [Act.put, List.setIfInBounds_toArray, List.set_cons_zero, List.set_cons_succ]
            refine take_as 7 (some 176) (v := ?_) rfl rfl (by kernel_rfl) (by kernel_rfl) (by kernel_rfl) (fun _ _ _ h => h) (Or.inl ⟨by rfl, ?_⟩) (by assumption) ?_
            rotate_left 1
            · intro w2 hSw
              go_simp
              try with_reducible rfl
            try simp only [Act.put, List.setIfInBounds_toArray, List.set_cons_zero, List.set_cons_succ]
            refine take_as 8 (some 177) rfl rfl (by kernel_rfl) (by kernel_rfl) (by kernel_rfl) (fun _ _ _ h => h) (yieldsIf_load_mid (by rfl) 29 (.tmp 176) rfl gc (k * 3) rfl (prV (q1, q2, q3)) _ (fun w2 hSw => PrsAt.at hSw Hq.out) Tryz.underlying29 rfl (by kernel_rfl)) (by assumption) ?_
            try simp only [Act.put, List.setIfInBounds_toArray, List.set_cons_zero, List.set_cons_succ]
            refine wpAnyH_ready (rs := [9, 10]) (by kernel_rfl) (by simp) ?_
            refine AllReadyH.cons rfl (fun K hK => ?_) ?_
            · go_simp
              refine name_world (fun w1 hwn => ?_)
              have hb : Below z4.heap.size z4 w1 := by rw [hwn]; exact (Below.refl _ _).alloc (Nat.le_refl _) _
              have hX : BoxAt w1 z4.heap.size (prV (0, 0, 0)) := by rw [hwn]; exact BoxAt.new _ _ _
              clear hwn
              obtain ⟨g20, hq⟩ : ∃ q, q = z4.heap.size := ⟨_, rfl⟩
              rw [← hq] at hX ⊢
              have Hg20 : Hid (wc.heap.size ≤ g20) := hide (by have := HbI.out.size; omega)
              replace HCr2 := hide (BoxAt.below HCr2.out hb)
              replace HbI := hide (HbI.out.trans (hb.mono HbI.out.size))
              have H20 := hide hX
              clear hb hX hq
              refine hK.out _ _ ?_ (fun hHeld => ?_)
              · exact HCr2.out
              clear hK K
              try simp only [Act.put, List.setIfInBounds_toArray, List.set_cons_zero, List.set_cons_succ]
              refine wpAnyH_ready (rs := [10]) (by kernel_rfl) (by simp) ?_
              refine AllReadyH.cons rfl (fun K hK => ?_) ?_
              · go_simp
                refine name_world (fun w2 hwn => ?_)
                have hb : Below w1.heap.size w1 w2 := by rw [hwn]; exact (Below.refl _ _).alloc (Nat.le_refl _) _
                have hX : BoxAt w2 w1.heap.size (prV (0, 0, 0)) := by rw [hwn]; exact BoxAt.new _ _ _
                clear hwn
                obtain ⟨g21, hq⟩ : ∃ q, q = w1.heap.size := ⟨_, rfl⟩
                rw [← hq] at hX ⊢
                have Hg21 : Hid (wc.heap.size ≤ g21) := hide (by have := HbI.out.size; omega)
                have Hnn : Hid (g20 ≠ g21) := hide (by have := BoxAt.lt0 H20.out; omega)
                replace HCr2 := hide (BoxAt.below HCr2.out hb)
                replace H20 := hide (BoxAt.below H20.out hb)
                replace HbI := hide (HbI.out.trans (hb.mono HbI.out.size))
                have H21 := hide hX
                clear hb hX hq
                refine hK.out _ _ ?_ (fun hHeld => ?_)
                · exact HCr2.out
                clear hK K
                try simp only [Act.put, List.setIfInBounds_toArray, List.set_cons_zero, List.set_cons_succ]
                refine wpAnyH_ready (rs := [11]) (by kernel_rfl) (by simp) ?_
                refine AllReadyH.cons rfl (fun K hK => ?_) ?_
                · refine step_store_as rfl rfl 29 (.tmp 20) (.tmp 173) rfl g20 0 (prV (p1, p2, p3)).toArray rfl rfl (H20.out.there 0 _ (by show 0 + 3 ≤ 3; decide)) (by kernel_rfl) (all_oneCell_toArray prV_one) ?_
                  refine after_put 0 (prV (p1, p2, p3)) _ H20.out (by show 0 + 3 ≤ 3; decide) rfl (fun w3 hV hT => ?_)
                  replace H20 := hide hV
                  replace H21 := hide (BoxAt.but H21.out hT (by have := Hnn.out; omega))
                  replace HCr2 := hide (BoxAt.but HCr2.out hT (by have h1 := Hg20.out; omega))
                  replace HbI := hide (HbI.out.trans (hT.below HbI.out.size (fun k hk => by have h1 := Hg20.out; omega)))
                  clear hV hT
                  refine hK.out _ _ ?_ (fun hHeld => ?_)
                  · exact HCr2.out
                  clear hK K
                  try simp only [Act.put, List.setIfInBounds_toArray, List.set_cons_zero, List.set_cons_succ]
                  refine wpAnyH_ready (rs := [12]) (by kernel_rfl) (by simp) ?_
                  refine AllReadyH.cons rfl (fun K hK => ?_) ?_
                  · refine step_store_as rfl rfl 29 (.tmp 21) (.tmp 177) rfl g21 0 (prV (q1, q2, q3)).toArray rfl rfl (H21.out.there 0 _ (by show 0 + 3 ≤ 3; decide)) (by kernel_rfl) (all_oneCell_toArray prV_one) ?_
                    refine after_put 0 (prV (q1, q2, q3)) _ H21.out (by show 0 + 3 ≤ 3; decide) rfl (fun w4 hV hT => ?_)
                    replace H21 := hide hV
                    replace H20 := hide (BoxAt.but H20.out hT (by have := Hnn.out; omega))
                    replace HCr2 := hide (BoxAt.but HCr2.out hT (by have h1 := Hg21.out; omega))
                    replace HbI := hide (HbI.out.trans (hT.below HbI.out.size (fun k hk => by have h1 := Hg21.out; omega)))
                    clear hV hT
                    refine hK.out _ _ ?_ (fun hHeld => ?_)
                    · exact HCr2.out
                    clear hK K
                    try simp only [Act.put, List.setIfInBounds_toArray, List.set_cons_zero, List.set_cons_succ]
                    refine wpAnyH_done (by kernel_rfl) ?_ _
                    have d0 : w4.cell? ⟨g20, 0, none⟩ = some (.int .i64 p1) := H20.out.1 0 _ rfl
                    have d1 : w4.cell? ⟨g20, 1, none⟩ = some (.int .i64 p2) := H20.out.1 1 _ rfl
                    have d2 : w4.cell? ⟨g20, 2, none⟩ = some (.int .i64 p3) := H20.out.1 2 _ rfl
                    have e0 : w4.cell? ⟨g21, 0, none⟩ = some (.int .i64 q1) := H21.out.1 0 _ rfl
                    have e1 : w4.cell? ⟨g21, 1, none⟩ = some (.int .i64 q2) := H21.out.1 1 _ rfl
                    have e2 : w4.cell? ⟨g21, 2, none⟩ = some (.int .i64 q3) := H21.out.1 2 _ rfl
                    rcases hpq with h1 | ⟨rfl, h2 | ⟨rfl, h3⟩⟩
                    · have n1 : ¬ q1 < p1 := by omega
                      have n2 : ¬ p1 = q1 := by omega
                      have n3 : (p1 == q1) = false := by simpa using n2
                      go_wp2_with fail
                      go_roundw
                      case rel => exact ⟨k + 1, by omega, by omega, by go_num, HbI.out⟩
                      case measure => simp [intOf]; omega
                    · have n1 : ¬ q2 < p2 := by omega
                      have n2 : ¬ p2 = q2 := by omega
                      have n3 : (p2 == q2) = false := by simpa using n2
                      go_wp2_with fail
                      go_roundw
                      case rel => exact ⟨k + 1, by omega, by omega, by go_num, HbI.out⟩
                      case measure => simp [intOf]; omega
                    · have n1 : ¬ q3 ≤ p3 := by omega
                      go_wp2_with fail
                      go_roundw
                      case rel => exact ⟨k + 1, by omega, by omega, by go_num, HbI.out⟩
                      case measure => simp [intOf]; omega
                  exact AllReadyH.nil
                exact AllReadyH.nil
              exact AllReadyH.nil
            refine AllReadyH.cons rfl (fun K hK => ?_) ?_
            · go_simp
              refine name_world (fun w1 hwn => ?_)
              have hb : Below z4.heap.size z4 w1 := by rw [hwn]; exact (Below.refl _ _).alloc (Nat.le_refl _) _
              have hX : BoxAt w1 z4.heap.size (prV (0, 0, 0)) := by rw [hwn]; exact BoxAt.new _ _ _
              clear hwn
              obtain ⟨g21, hq⟩ : ∃ q, q = z4.heap.size := ⟨_, rfl⟩
              rw [← hq] at hX ⊢
              have Hg21 : Hid (wc.heap.size ≤ g21) := hide (by have := HbI.out.size; omega)
              replace HCr2 := hide (BoxAt.below HCr2.out hb)
              replace HbI := hide (HbI.out.trans (hb.mono HbI.out.size))
              have H21 := hide hX
              clear hb hX hq
              refine hK.out _ _ ?_ (fun hHeld => ?_)
              · exact HCr2.out
              clear hK K
              try simp only [Act.put, List.setIfInBounds_toArray, List.set_cons_zero, List.set_cons_succ]
              refine wpAnyH_ready (rs := [9]) (by kernel_rfl) (by simp) ?_
              refine AllReadyH.cons rfl (fun K hK => ?_) ?_
              · go_simp
                refine name_world (fun w2 hwn => ?_)
                have hb : Below w1.heap.size w1 w2 := by rw [hwn]; exact (Below.refl _ _).alloc (Nat.le_refl _) _
                have hX : BoxAt w2 w1.heap.size (prV (0, 0, 0)) := by rw [hwn]; exact BoxAt.new _ _ _
                clear hwn
                obtain ⟨g20, hq⟩ : ∃ q, q = w1.heap.size := ⟨_, rfl⟩
                rw [← hq] at hX ⊢
                have Hg20 : Hid (wc.heap.size ≤ g20) := hide (by have := HbI.out.size; omega)
                have Hnn : Hid (g20 ≠ g21) := hide (by have := BoxAt.lt0 H21.out; omega)
                replace HCr2 := hide (BoxAt.below HCr2.out hb)
                replace H21 := hide (BoxAt.below H21.out hb)
                replace HbI := hide (HbI.out.trans (hb.mono HbI.out.size))
                have H20 := hide hX
                clear hb hX hq
                refine hK.out _ _ ?_ (fun hHeld => ?_)
                · exact HCr2.out
                clear hK K
                try simp only [Act.put, List.setIfInBounds_toArray, List.set_cons_zero, List.set_cons_succ]
                refine wpAnyH_ready (rs := [11]) (by kernel_rfl) (by simp) ?_
                refine AllReadyH.cons rfl (fun K hK => ?_) ?_
                · refine step_store_as rfl rfl 29 (.tmp 20) (.tmp 173) rfl g20 0 (prV (p1, p2, p3)).toArray rfl rfl (H20.out.there 0 _ (by show 0 + 3 ≤ 3; decide)) (by kernel_rfl) (all_oneCell_toArray prV_one) ?_
                  refine after_put 0 (prV (p1, p2, p3)) _ H20.out (by show 0 + 3 ≤ 3; decide) rfl (fun w3 hV hT => ?_)
                  replace H20 := hide hV
                  replace H21 := hide (BoxAt.but H21.out hT (by have := Hnn.out; omega))
                  replace HCr2 := hide (BoxAt.but HCr2.out hT (by have h1 := Hg20.out; omega))
                  replace HbI := hide (HbI.out.trans (hT.below HbI.out.size (fun k hk => by have h1 := Hg20.out; omega)))
                  clear hV hT
                  refine hK.out _ _ ?_ (fun hHeld => ?_)
                  · exact HCr2.out
                  clear hK K
                  try simp only [Act.put, List.setIfInBounds_toArray, List.set_cons_zero, List.set_cons_succ]
                  refine wpAnyH_ready (rs := [12]) (by kernel_rfl) (by simp) ?_
                  refine AllReadyH.cons rfl (fun K hK => ?_) ?_
                  · refine step_store_as rfl rfl 29 (.tmp 21) (.tmp 177) rfl g21 0 (prV (q1, q2, q3)).toArray rfl rfl (H21.out.there 0 _ (by show 0 + 3 ≤ 3; decide)) (by kernel_rfl) (all_oneCell_toArray prV_one) ?_
                    refine after_put 0 (prV (q1, q2, q3)) _ H21.out (by show 0 + 3 ≤ 3; decide) rfl (fun w4 hV hT => ?_)
                    replace H21 := hide hV
                    replace H20 := hide (BoxAt.but H20.out hT (by have := Hnn.out; omega))
                    replace HCr2 := hide (BoxAt.but HCr2.out hT (by have h1 := Hg21.out; omega))
                    replace HbI := hide (HbI.out.trans (hT.below HbI.out.size (fun k hk => by have h1 := Hg21.out; omega)))
                    clear hV hT
                    refine hK.out _ _ ?_ (fun hHeld => ?_)
                    · exact HCr2.out
                    clear hK K
                    try simp only [Act.put, List.setIfInBounds_toArray, List.set_cons_zero, List.set_cons_succ]
                    refine wpAnyH_done (by kernel_rfl) ?_ _
                    have d0 : w4.cell? ⟨g20, 0, none⟩ = some (.int .i64 p1) := H20.out.1 0 _ rfl
                    have d1 : w4.cell? ⟨g20, 1, none⟩ = some (.int .i64 p2) := H20.out.1 1 _ rfl
                    have d2 : w4.cell? ⟨g20, 2, none⟩ = some (.int .i64 p3) := H20.out.1 2 _ rfl
                    have e0 : w4.cell? ⟨g21, 0, none⟩ = some (.int .i64 q1) := H21.out.1 0 _ rfl
                    have e1 : w4.cell? ⟨g21, 1, none⟩ = some (.int .i64 q2) := H21.out.1 1 _ rfl
                    have e2 : w4.cell? ⟨g21, 2, none⟩ = some (.int .i64 q3) := H21.out.1 2 _ rfl
                    rcases hpq with h1 | ⟨rfl, h2 | ⟨rfl, h3⟩⟩
                    · have n1 : ¬ q1 < p1 := by omega
                      have n2 : ¬ p1 = q1 := by omega
                      have n3 : (p1 == q1) = false := by simpa using n2
                      go_wp2_with fail
                      go_roundw
                      case rel => exact ⟨k + 1, by omega, by omega, by go_num, HbI.out⟩
                      case measure => simp [intOf]; omega
                    · have n1 : ¬ q2 < p2 := by omega
                      have n2 : ¬ p2 = q2 := by omega
                      have n3 : (p2 == q2) = false := by simpa using n2
                      go_wp2_with fail
                      go_roundw
                      case rel => exact ⟨k + 1, by omega, by omega, by go_num, HbI.out⟩
                      case measure => simp [intOf]; omega
                    · have n1 : ¬ q3 ≤ p3 := by omega
                      go_wp2_with fail
                      go_roundw
                      case rel => exact ⟨k + 1, by omega, by omega, by go_num, HbI.out⟩
                      case measure => simp [intOf]; omega
                  exact AllReadyH.nil
                exact AllReadyH.nil
              exact AllReadyH.nil
            exact AllReadyH.nil
          · go_wp2_with (go_at_call 5; refine (circles_any (restOf ps ps.length) gr capr _ (by omega) (BoxAt.below HR1.out HbI.out)).mono ?_; rintro e w9 ⟨g9, c9, rs2, rfl, hmem2, -, -, -, hb9⟩; obtain rfl := rest_none hmem2; replace HbI := hide (HbI.out.trans (hb9.mono HbI.out.size)); clear hb9 hmem2)
            go_ret
            exact ⟨rfl, HbW2.out.trans (HbI.out.mono HbW2.out.size)⟩

end Go.Proofs.YthhfakkfdohcpaaGreat
