/- The reference's put and Order. Condition: rows of at most 1000 claims. -/
import Derived.Test.YthpbjceajnaokaaChn
import Derived.Test.YthpbjceajnaokaaRot
import Derived.Test.YthpbjceajnaokaaLdm
namespace Go.Proofs.Ythpbjceajnaokaa
open Go.RowKit

theorem keepSD {w2 w' : World} {B D : Nat} {d : Cl} (hb : Below D w2 w') (h : IsCl w2 B 0 d) (hz : B < D) :
    w'.cell? ⟨B, 0, none⟩ = some (.int .i64 d.firm) ∧ w'.cell? ⟨B, 1, none⟩ = some (.int .i64 d.seq) ∧ w'.cell? ⟨B, 2, none⟩ = some (.int .i64 d.time) ∧ w'.cell? ⟨B, 3, none⟩ = some (.int .i64 d.kind) ∧ w'.cell? ⟨B, 4, none⟩ = some (.int .i64 d.a) ∧ w'.cell? ⟨B, 5, none⟩ = some (.int .u64 d.ref) ∧ w'.cell? ⟨B, 6, none⟩ = some (.int .u64 d.aux) ∧ w'.cell? ⟨B, 7, none⟩ = some (.int .u64 d.prev) ∧ w'.cell? ⟨B, 8, none⟩ = some (.int .u64 d.tag) ∧ Below D w2 w' := by
  obtain ⟨h0, h1, h2, h3, h4, h5, h6, h7, h8⟩ := (h.keep (w' := w') (fun o => hb.cell (p := ⟨B, o, none⟩) hz)).at0
  exact ⟨h0, h1, h2, h3, h4, h5, h6, h7, h8, hb⟩

set_option maxRecDepth 100000 in
set_option maxHeartbeats 2000000 in
theorem put_any (b off n ca : Nat) (xs : List Cl) (c : Cl) (w : World) (ha : SlC w w.heap.size (some ⟨b, off, none⟩) n xs) (hn : n ≤ 1000) (hca : n ≤ ca) :
    Calls Try.prog 52 #[.slice (some ⟨b, off, none⟩) n ca, .agg #[.int .i64 c.firm, .int .i64 c.seq, .int .i64 c.time, .int .i64 c.kind, .int .i64 c.a, .int .u64 c.ref, .int .u64 c.aux, .int .u64 c.prev, .int .u64 c.tag]] w (OwnPost w.heap.size w (n + 1) (putF xs c)) := by
  have Ha := hide ha; clear ha
  go_enter Try.func52, Try.ntmps52
  go_wp2
  obtain ⟨w1, hw1⟩ : ∃ V, V = w.alloc (.cells (#[.int .i64 c.firm, .int .i64 c.seq, .int .i64 c.time, .int .i64 c.kind, .int .i64 c.a, .int .u64 c.ref, .int .u64 c.aux, .int .u64 c.prev, .int .u64 c.tag]) 29) := ⟨_, rfl⟩
  have hb1 : Below w.heap.size w w1 := by rw [hw1]; exact (Below.refl _ w).alloc (Nat.le_refl _) _
  have hc1 : IsCl w1 w.heap.size 0 c := by rw [hw1]; exact IsCl.block (heap_alloc_new w _)
  have hz1 : w.heap.size < w1.heap.size := by rw [hw1]; simp
  rw [← hw1]
  have H1 := hide (And.intro hb1 (And.intro hc1 hz1))
  clear hw1 hb1 hc1 hz1
  go_loopg [5] n (fun gk st wr => ∃ t : Nat, t ≤ n ∧ t ≤ gk ∧ st = .int .i64 (t : Int) ∧ pos xs c t = pos xs c n ∧ Below w1.heap.size w1 wr)
  case atStart => exact ⟨n, by omega, by omega, rfl, rfl, Below.refl _ _⟩
  case round =>
    obtain ⟨t, ht, htg, rfl, hpos, hbl⟩ := hrel
    have Hpos := hide hpos; clear hpos
    have Hbl := hide hbl; clear hbl
    have hcr := H1.out.2.1.keep (w' := wr) (fun o => Hbl.out.cell (p := ⟨w.heap.size, o, none⟩) H1.out.2.2)
    have Hcr := hide hcr
    obtain ⟨u0, u1, u2, u3, u4, u5, u6, u7, u8⟩ := hcr.at0
    clear hcr
    have hstop : (t = 0 ∨ ∃ j y, t = j + 1 ∧ xs[j]? = some y ∧ ltC c y = false) ∨ ∃ j y, t = j + 1 ∧ xs[j]? = some y ∧ ltC c y = true := by
      rcases t with _ | j
      · exact .inl (.inl rfl)
      · obtain ⟨y, hy⟩ : ∃ y, xs[j]? = some y := ⟨xs[j]'(by have := Ha.out.1; omega), List.getElem?_eq_getElem _⟩
        rcases Bool.eq_false_or_eq_true (ltC c y) with h | h
        · exact .inr ⟨j, y, rfl, hy, h⟩
        · exact .inl (.inr ⟨j, y, rfl, hy, h⟩)
    have hcells : ∀ (j : Nat) (y : Cl), j < n → xs[j]? = some y → IsCl wr b (off + j * 9) y := fun j y hj hy => by
      obtain ⟨b', off', d, e, hb, hx, hd⟩ := Ha.out.at_ hj
      injection e with e
      injection e with e1 e2
      subst e1 e2
      rw [hy] at hx
      injection hx with hx
      subst hx
      exact hd.keep (fun o => ((H1.out.1.trans (Hbl.out.mono (Nat.le_of_lt H1.out.2.2))).cell (p := ⟨b, o, none⟩) hb))
    have Hcells := hide hcells; clear hcells
    go_upto_region 2 with (fail)
    rcases hstop with hstop | ⟨j, y, rfl, hy, hlt⟩
    · have hp : pos xs c n = t := by
        rw [← Hpos.out]
        rcases hstop with rfl | ⟨j, y, rfl, hy, hlt⟩
        · rfl
        · unfold pos; rw [hy, Option.getD_some, hlt]; rfl
      have Hp := hide hp; clear hp
      go_cut [19] (fun v wx => v = .bool false ∧ Below w1.heap.size w1 wx)
      case first =>
        rcases hstop with rfl | ⟨j, y, rfl, hy, hlt⟩
        · have U0 := Wd.cell u0
          refine wp_region_grew (by kernel_rfl) (by kernel_rfl) ?_
          iterate 11 (go_big_quiet_step (fail))
          refine wpQuiet_nil ?_
          intro w5 hw5
          obtain ⟨⟨w5, hb5⟩, rfl⟩ := hw5
          go_wp2_with fail
          go_meet
          exact ⟨rfl, Hbl.out.trans (hb5.mono Hbl.out.size)⟩
        · obtain ⟨v0, v1, v2, v3, v4, v5, v6, v7, v8⟩ := Hcells.out j y (by omega) hy
          have U0 := Wd.cell u0; have U1 := Wd.cell u1; have U2 := Wd.cell u2; have U3 := Wd.cell u3; have U4 := Wd.cell u4; have U5 := Wd.cell u5; have U6 := Wd.cell u6; have U7 := Wd.cell u7; have U8 := Wd.cell u8
          have V0 := Wd.cell v0; have V1 := Wd.cell v1; have V2 := Wd.cell v2; have V3 := Wd.cell v3; have V4 := Wd.cell v4; have V5 := Wd.cell v5; have V6 := Wd.cell v6; have V7 := Wd.cell v7; have V8 := Wd.cell v8
          have z1 : IntKind.i64.wrap ((j : Int) + 1 - 1) = (j : Int) := by rw [IntWalk.i64_in _ (by omega)]; omega
          have z2 : (j : Int) < (n : Int) := by omega
          have z3 : (0 : Int) ≤ (j : Int) := by omega
          have Kb := fun p : Wd wr => hide (show Calls Try.prog 33 #[.agg #[.int .i64 c.firm, .int .i64 c.seq, .int .i64 c.time, .int .i64 c.kind, .int .i64 c.a, .int .u64 c.ref, .int .u64 c.aux, .int .u64 c.prev, .int .u64 c.tag], .agg #[.int .i64 y.firm, .int .i64 y.seq, .int .i64 y.time, .int .i64 y.kind, .int .i64 y.a, .int .u64 y.ref, .int .u64 y.aux, .int .u64 y.prev, .int .u64 y.tag]] p.w' fun e w' => e = .returned (.bool false) ∧ Below p.w'.heap.size p.w' w' from by have h := before_any c y p.w'; rw [hlt] at h; exact h)
          clear u0 u1 u2 u3 u4 u5 u6 u7 u8 v0 v1 v2 v3 v4 v5 v6 v7 v8 hlt hy
          refine wp_region_grew (by kernel_rfl) (by kernel_rfl) ?_
          iterate 11 (go_big_quiet_step ((go_at_call 33; exact grew_of (Kb _).out)))
          refine wpQuiet_nil ?_
          intro w5 hw5
          obtain ⟨⟨w5, hb5⟩, rfl⟩ := hw5
          go_wp2_with fail
          go_meet
          exact ⟨rfl, Hbl.out.trans (hb5.mono Hbl.out.size)⟩
      case rest =>
        obtain ⟨rfl, hb2⟩ := hcut
        clear hstop u0 u1 u2 u3 u4 u5 u6 u7 u8 Hcr Hcells
        have Hq := hide (H1.out.2.1.keep (w' := wc) (fun o => hb2.cell (p := ⟨w.heap.size, o, none⟩) H1.out.2.2))
        have hzc : w.heap.size < wc.heap.size := Nat.lt_of_lt_of_le H1.out.2.2 hb2.size
        have hbw : Below w.heap.size w wc := H1.out.1.trans (hb2.mono (Nat.le_of_lt H1.out.2.2))
        have Hbw := hide hbw
        have Hsa := hide ((Ha.out.below hbw).more (B' := wc.heap.size) (Nat.le_of_lt hzc))
        have Htk := hide (Hsa.out.take (k := t) ht)
        obtain ⟨w3, hw3⟩ : ∃ V : World, V = wc := ⟨_, rfl⟩
        rw [← hw3] at Hq hzc Hbw Hsa Htk ⊢
        clear hw3 hb2 hbw
        have htc : (t : Int) ≤ (ca : Int) := by omega
        have htn : (t : Int) ≤ (n : Int) := by omega
        have ht0 : (0 : Int) ≤ (t : Int) := by omega
        go_upto_region 5 with (at_builtin; refine wpList_app rfl (.tmp 22) (.tmp 25) rfl (.slice (some ⟨w3.heap.size, 0, none⟩) 0 0) rfl (some ⟨b, off, none⟩) t ca rfl w3.heap.size 0 w3.heap.size [] (xs.take t) (World.ownsRow_made w3 #[] 0 (Nat.le_refl _) (by decide) rfl) (Htk.out.alloc (Nat.le_refl _) _) (by omega) (by simp) ?_; intro A6 c6 w5 how hgr hat)
        simp only [Nat.zero_add, List.nil_append] at how ⊢
        have hb5 : Below w3.heap.size w3 w5 := ((Below.refl _ w3).alloc (Nat.le_refl _) _).grown hgr (by simp) (by simp [Value.ownBlock])
        have Ho5 := hide how
        have Hb5 := hide hb5
        have Hq5 := hide (Hq.out.keep (w' := w5) (fun o => hb5.cell (p := ⟨w.heap.size, o, none⟩) hzc))
        have Hsa5 := hide (Hsa.out.below hb5)
        obtain ⟨D, hD⟩ : ∃ D, D = w3.heap.size := ⟨_, rfl⟩
        rw [← hD] at Ho5 Hb5 Hsa5 hzc
        have hD5 : D ≤ w5.heap.size := by rw [hD]; exact hb5.size
        have Hbw5 := hide (Hbw.out.trans (hb5.mono Hbw.out.size))
        have hDw : w.heap.size ≤ D := Nat.le_of_lt hzc
        clear how hgr hat hb5 hD Hq Hsa Htk Hbw
        have hdr : ∃ A2 c2, (Instr.slice 33 (.slice (some ⟨b, off, none⟩) n ca) (some (.int .i64 (t : Int))) none none).run Try.prog w5 = .ok (.slice A2 (n - t) c2) w5 ∧ SlC w5 D A2 (n - t) (xs.drop t) ∧ ∀ W, (Instr.slice 33 (.slice (some ⟨b, off, none⟩) n ca) (some (.int .i64 (t : Int))) none none).run Try.prog W = .ok (.slice A2 (n - t) c2) W := by
          have hrun := fun W => run_slice_l (P := Try.prog) W 33 (some ⟨b, off, none⟩) n ca Try.underlying33 .i64 (t : Int) ht0 htn
          have hsz := fun W => show (sizeOf (Try.prog.elem 33)).run Try.prog W = .ok 9 W by kernel_rfl
          by_cases hct : ca = t
          · have h0 : n - t = 0 := by omega
            have hrw : ∀ W, (Instr.slice 33 (.slice (some ⟨b, off, none⟩) n ca) (some (.int .i64 (t : Int))) none none).run Try.prog W = .ok (.slice (some ⟨b, off, none⟩) (n - t) (ca - t)) W := fun W => by
              rw [hrun, hsz]
              simp [Result.andThen, sliced, hct]
            refine ⟨_, _, hrw w5, ?_, hrw⟩
            rw [h0, List.drop_eq_nil_of_le (by have := Ha.out.1; omega)]
            exact SlC.none_
          · have hrw : ∀ W, (Instr.slice 33 (.slice (some ⟨b, off, none⟩) n ca) (some (.int .i64 (t : Int))) none none).run Try.prog W = .ok (.slice (some ⟨b, off + t * 9, none⟩) (n - t) (ca - t)) W := fun W => by
              rw [hrun, hsz]
              simp [Result.andThen, sliced, hct, add_at]
            exact ⟨_, _, hrw w5, Hsa5.out.drop ht, hrw⟩
        obtain ⟨A2, c2, -, hs2, hrw⟩ := hdr
        have Hs2 := hide hs2
        clear hs2
        go_cut [4] (fun v wx => ∃ A7 c7, v = .slice A7 (n + 1) c7 ∧ OwC wx D (.slice A7 (n + 1) c7) (n + 1) (xs.take t ++ [c] ++ xs.drop t) ∧ Below D w5 wx)
        case first =>
          go_region_held3 (fun w' => w'.cell? ⟨w.heap.size, 0, none⟩ = some (.int .i64 c.firm) ∧ w'.cell? ⟨w.heap.size, 1, none⟩ = some (.int .i64 c.seq) ∧ w'.cell? ⟨w.heap.size, 2, none⟩ = some (.int .i64 c.time) ∧ w'.cell? ⟨w.heap.size, 3, none⟩ = some (.int .i64 c.kind) ∧ w'.cell? ⟨w.heap.size, 4, none⟩ = some (.int .i64 c.a) ∧ w'.cell? ⟨w.heap.size, 5, none⟩ = some (.int .u64 c.ref) ∧ w'.cell? ⟨w.heap.size, 6, none⟩ = some (.int .u64 c.aux) ∧ w'.cell? ⟨w.heap.size, 7, none⟩ = some (.int .u64 c.prev) ∧ w'.cell? ⟨w.heap.size, 8, none⟩ = some (.int .u64 c.tag) ∧ Below D w5 w')
            ((go_split_ands; refine keepSD ?_ Hq5.out hzc; first | exact (Below.refl _ _).drew | assumption | exact Below.alloc ((Below.refl _ _).drew) hD5 _))
            (first
              | ((with_reducible refine step_app ?_ (.tmp 27) (.tmp 29) ?_ (.slice A6 t c6) ?_ (some ⟨w5.heap.size, 0, none⟩) 1 1 ?_ D t (w5.heap.size + 1) (xs.take t) [c] ?_ ?_ ?_ ?_ ?_); (focus rfl); (focus rfl); (focus rfl); (focus rfl); (focus exact (OwC.allocd (w := w5.drew) Ho5.out _)); (focus exact (slc_one w5.drew _)); (focus omega); (focus exact Nat.le_trans hD5 (size_one w5 _)); intro A7 c7 w7 ho7 hg7 hat7; have hB7 : Below D w5 w7 := Below.grown (Below.alloc ((Below.refl D w5).drew) hD5 _) hg7 (Nat.le_trans hD5 (size_one w5 _)) (OwC.row Ho5.out))
              | ((with_reducible refine step_app ?_ (.tmp 30) (.tmp 33) ?_ (.slice A7 (t + 1) c7) ?_ A2 (n - t) c2 ?_ D (t + 1) D (xs.take t ++ [c]) (xs.drop t) ?_ ?_ ?_ ?_ ?_); (focus rfl); (focus rfl); (focus rfl); (focus rfl); (focus exact ho7); (focus exact (Hs2.out.below hB7)); (focus omega); (focus exact Nat.le_trans hD5 hB7.size); intro A8 c8 w8 ho8 hg8 hat8; have hB8 : Below D w5 w8 := hB7.grown hg8 (Nat.le_trans hD5 hB7.size) (OwC.row ho7))
              | fail)
          all_goals
            go_wp2_with fail
            go_meet
            rw [show t + 1 + (n - t) = n + 1 by omega] at ho8 ⊢
            exact ⟨A8, c8, rfl, ho8, hB8⟩
        case rest =>
          obtain ⟨A7, c7, rfl, ho7, hb7⟩ := hcut
          have Hres := hide (show putF xs c = xs.take t ++ [c] ++ xs.drop t by unfold putF putAt; rw [Ha.out.1, Hp.out]; simp)
          have Ho7 := hide (ho7.less hDw)
          have Hb7 := hide (Hbw5.out.trans (hb7.mono hDw))
          clear ho7 hb7 hrw
          go_wp2
          go_ret
          exact ⟨A7, c7, rfl, by rw [Hres.out]; exact Ho7.out, Hb7.out⟩
    · obtain ⟨v0, v1, v2, v3, v4, v5, v6, v7, v8⟩ := Hcells.out j y (by omega) hy
      have U0 := Wd.cell u0; have U1 := Wd.cell u1; have U2 := Wd.cell u2; have U3 := Wd.cell u3; have U4 := Wd.cell u4; have U5 := Wd.cell u5; have U6 := Wd.cell u6; have U7 := Wd.cell u7; have U8 := Wd.cell u8
      have V0 := Wd.cell v0; have V1 := Wd.cell v1; have V2 := Wd.cell v2; have V3 := Wd.cell v3; have V4 := Wd.cell v4; have V5 := Wd.cell v5; have V6 := Wd.cell v6; have V7 := Wd.cell v7; have V8 := Wd.cell v8
      have z1 : IntKind.i64.wrap ((j : Int) + 1 - 1) = (j : Int) := by rw [IntWalk.i64_in _ (by omega)]; omega
      have z2 : (j : Int) < (n : Int) := by omega
      have z3 : (0 : Int) ≤ (j : Int) := by omega
      have Kb := fun p : Wd wr => hide (show Calls Try.prog 33 #[.agg #[.int .i64 c.firm, .int .i64 c.seq, .int .i64 c.time, .int .i64 c.kind, .int .i64 c.a, .int .u64 c.ref, .int .u64 c.aux, .int .u64 c.prev, .int .u64 c.tag], .agg #[.int .i64 y.firm, .int .i64 y.seq, .int .i64 y.time, .int .i64 y.kind, .int .i64 y.a, .int .u64 y.ref, .int .u64 y.aux, .int .u64 y.prev, .int .u64 y.tag]] p.w' fun e w' => e = .returned (.bool true) ∧ Below p.w'.heap.size p.w' w' from by have h := before_any c y p.w'; rw [hlt] at h; exact h)
      have Hpj := hide (show pos xs c j = pos xs c n by rw [← Hpos.out]; show _ = (if ltC c (xs[j]?.getD zeroC) then pos xs c j else j + 1); rw [hy, Option.getD_some, hlt, if_pos rfl])
      clear u0 u1 u2 u3 u4 u5 u6 u7 u8 v0 v1 v2 v3 v4 v5 v6 v7 v8 hlt hy
      refine wp_region_grew (by kernel_rfl) (by kernel_rfl) ?_
      iterate 11 (go_big_quiet_step ((go_at_call 33; exact grew_of (Kb _).out)))
      refine wpQuiet_nil ?_
      intro w5 hw5
      obtain ⟨⟨w5, hb5⟩, rfl⟩ := hw5
      have Hb5 := hide (Hbl.out.trans (hb5.mono Hbl.out.size))
      clear U0 U1 U2 U3 U4 U5 U6 U7 U8 V0 V1 V2 V3 V4 V5 V6 V7 V8 Kb hb5 z1
      go_wp2
      go_roundg j
      case measure => omega
      case rel => exact ⟨j, by omega, by omega, val_i64 (by omega), Hpj.out, Hb5.out⟩

theorem some_of_own {w : World} {base n c : Nat} {A : Option Addr} {xs : List Cl} (h : OwC w base (.slice A n c) n xs) (hn : 0 < n) : ∃ g, A = some ⟨g, 0, none⟩ := by
  obtain ⟨g, cap, hv, _⟩ := h.form hn
  injection hv with hv
  exact ⟨g, hv⟩
theorem flat_take_succ {xss : List (List Cl)} {i k : Nat} {xs : List Cl} {c : Cl} (hk : xs[k]? = some c) : insF ((xss.take i).flatten ++ xs.take (k + 1)) = putF (insF ((xss.take i).flatten ++ xs.take k)) c := by
  rw [take_snoc hk, ← List.append_assoc, insF_snoc]

set_option maxRecDepth 100000 in
set_option maxHeartbeats 2000000 in
theorem orderR_any (A : Option Addr) (n cap : Nat) (xss : List (List Cl)) (w : World) (ha : SlS w w.heap.size A n xss) (hn : n ≤ 1000) (tot : Nat) (ht : xss.flatten.length = tot) (htot : tot < 40) :
    Calls Try.prog 29 #[.slice A n cap] w (OwnPost w.heap.size w tot (insF xss.flatten)) := by
  have Ha := hide ha; clear ha
  have Ht := hide ht; clear ht
  go_enter Try.func29, Try.ntmps29
  go_wp2
  go_loopg [3, 4] n (fun gk sv si wr => ∃ (i m c b : Nat), i + gk = n ∧ sv = .slice (some ⟨b, 0, none⟩) m c ∧ si = .int .i64 (i : Int) ∧ OwC wr w.heap.size (.slice (some ⟨b, 0, none⟩) m c) m (insF (xss.take i).flatten) ∧ m ≤ tot ∧ m = (xss.take i).flatten.length ∧ Below w.heap.size w wr)
  case atStart => exact ⟨0, 0, 0, _, by omega, rfl, rfl, OwC.empty (Nat.le_refl _), by omega, rfl, (Below.refl _ _).alloc (Nat.le_refl _) _⟩
  case round =>
    obtain ⟨i, m, c, b, hi, rfl, rfl, hown, hm, hmf, hbl⟩ := hrel
    have Hown := hide hown; clear hown
    have Hmf := hide hmf; clear hmf
    have Hbl := hide hbl; clear hbl
    by_cases hlt : i < n
    · obtain ⟨b1, o1, xs, A', c', rfl, hb1, hx, -, -⟩ := Ha.out.at_ hlt
      have hle : (xss.take i).flatten.length + xs.length ≤ tot := by
        have h1 := flat_take_le xss (i + 1)
        rw [flat_take _ _ _ hx, List.length_append, Ht.out] at h1
        exact h1
      have hnext : insF (xss.take (i + 1)).flatten = insF ((xss.take i).flatten ++ xs) := by rw [flat_take _ _ _ hx]
      have hnl : (xss.take (i + 1)).flatten.length = (xss.take i).flatten.length + xs.length := by rw [flat_take _ _ _ hx, List.length_append]
      have Hx := hide (And.intro hx (And.intro hle (And.intro hnext hnl)))
      clear hx hle hnext hnl
      go_wp2
      go_loopg [3, 5] 40 (fun gk sv sk wr => ∃ (k m c b : Nat), k ≤ xs.length ∧ xs.length - k ≤ gk ∧ sv = .slice (some ⟨b, 0, none⟩) m c ∧ sk = .int .i64 (k : Int) ∧ OwC wr w.heap.size (.slice (some ⟨b, 0, none⟩) m c) m (insF ((xss.take i).flatten ++ xs.take k)) ∧ m = (xss.take i).flatten.length + k ∧ Below w.heap.size w wr)
      case atStart => exact ⟨0, m, c, b, by omega, by have := Hx.out.2.1; omega, rfl, rfl, by rw [List.take_zero, List.append_nil]; exact Hown.out, by rw [Hmf.out]; rfl, Hbl.out⟩
      case round =>
        obtain ⟨k, m, c, b, hk, hgk, rfl, rfl, hown, hm, hbl⟩ := hrel
        clear Hown Hmf Hbl
        have Hown := hide hown; clear hown
        have Hm := hide hm; clear hm
        have Hbl := hide hbl; clear hbl
        obtain ⟨b2, o2, xs', A2, c2, ead, hb2, hx2, hcell, hsl⟩ := Ha.out.at_ hlt
        injection ead with ead
        injection ead with ea1 ea2
        subst ea1 ea2
        rw [Hx.out.1] at hx2
        injection hx2 with hx2
        subst hx2
        rw [← Hbl.out.cell (p := ⟨b1, o1 + i, none⟩) hb2] at hcell
        by_cases hkl : k < xs.length
        · obtain ⟨b3, o3, d, rfl, hb3, hd, hdc⟩ := hsl.at_ hkl
          obtain ⟨u0, u1, u2, u3, u4, u5, u6, u7, u8⟩ := hdc.keep (w' := wr) (fun o => Hbl.out.cell (p := ⟨b3, o, none⟩) hb3)
          have Hd := hide hd
          clear hd hdc hsl hb3 hb2
          have z1 : (k : Int) < (xs.length : Int) := by omega
          have z2 : (i : Int) < (n : Int) := by omega
          have hxl40 : xs.length < 40 := by have := Hx.out.2.1; omega
          have hmc := Hown.out.cap_le
          have hm40 : m ≤ 1000 := by have := Hm.out; have := Hx.out.2.1; omega
          go_wp2_with fail
          refine (put_any b 0 m c (insF ((xss.take i).flatten ++ xs.take k)) d _ Hown.out.slc hm40 hmc).mono ?_
          rintro e w3 ⟨A3, c3, rfl, ho3, hb3⟩
          obtain ⟨g, rfl⟩ := some_of_own ho3 (by omega)
          have Ho3 := hide (ho3.less Hbl.out.size)
          have Hb3 := hide (Hbl.out.trans (hb3.mono Hbl.out.size))
          clear ho3 hb3 u0 u1 u2 u3 u4 u5 u6 u7 u8 hcell
          go_wp2
          go_roundg (xs.length - (k + 1))
          case measure => omega
          case rel => exact ⟨k + 1, m + 1, c3, g, by omega, by omega, rfl, by go_num, by rw [flat_take_succ Hd.out]; exact Ho3.out, by have := Hm.out; omega, Hb3.out⟩
        · obtain rfl : k = xs.length := by omega
          have z1 : ¬ (xs.length : Int) < (xs.length : Int) := by omega
          have z2 : (i : Int) < (n : Int) := by omega
          have hfin := Hown.out
          rw [List.take_length, ← Hx.out.2.2.1] at hfin
          have Hfin := hide hfin
          clear hfin
          go_wp2
          go_roundg (n - (i + 1))
          case measure => omega
          case rel => exact ⟨i + 1, m, c, b, by omega, rfl, by go_num, Hfin.out, by have := Hm.out; have := Hx.out.2.1; omega, by rw [Hx.out.2.2.2]; exact Hm.out, Hbl.out⟩
    · obtain rfl : i = n := by omega
      have hfin := Hown.out
      rw [List.take_of_length_le (by rw [Ha.out.1]; exact Nat.le_refl _)] at hfin
      have hmt : m = tot := by rw [Hmf.out, List.take_of_length_le (by rw [Ha.out.1]; exact Nat.le_refl _), Ht.out]
      subst hmt
      have Hfin := hide hfin
      clear hfin
      go_wp2
      go_ret
      exact ⟨_, c, rfl, Hfin.out, Hbl.out⟩
end Go.Proofs.Ythpbjceajnaokaa
