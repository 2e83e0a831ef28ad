/- At on fewer than forty claims. Condition: at most 100 chains, fewer than forty claims in force. -/
import Derived.Test.YthpbjceajnaokaaSt4
import Derived.Test.YthpbjceajnaokaaAt
namespace Go.Proofs.Ythpbjceajnaokaa
open Go.RowKit

set_option maxRecDepth 100000 in
set_option maxHeartbeats 2000000 in
theorem at_any (A : Option Addr) (n cap : Nat) (time : Int) (xss : List (List Cl)) (w : World) (ha : SlS w w.heap.size A n xss) (hn : n ≤ 100) (hwf : ∀ xs ∈ xss, ∀ c ∈ xs, wfC c) (hlen : ∀ xs ∈ xss, xs.length ≤ 1000)
    (tot : Nat) (ht : (forcedL xss time n).flatten.length = tot) (htot : tot < 40) :
    Calls Try.prog 30 #[.slice A n cap, .int .i64 time] w (OwnPost w.heap.size w tot (insF (forcedL xss time n).flatten)) := by
  have Ha := hide ha; clear ha
  have Hwf := hide hwf; clear hwf
  have Hlen := hide hlen; clear hlen
  have Ht := hide ht; clear ht
  have hmm := @run_makeMap Try.prog
  go_enter Try.func30, Try.ntmps30
  go_wp2
  go_loopg [16] n (fun gk i wr => ∃ k : Nat, k + gk = n ∧ i = .int .i64 k ∧ (∃ cnt, cnt ≤ k * 1000 ∧ BMap2 wr (w.heap.size + 1) cnt (gF xss time k 0)) ∧ wr.cell? ⟨w.heap.size, 0, none⟩ = some (.int .i64 time) ∧ wr.cell? ⟨w.heap.size + 1 + 1, 0, none⟩ = some (.map (some (w.heap.size + 1))) ∧ w.heap.size + 1 + 1 < wr.heap.size ∧ Below w.heap.size w wr)
  case atStart =>
    refine ⟨0, by omega, rfl, ⟨0, by omega, ?_⟩, ?_, ?_, by simp, (((Below.refl _ _).alloc (Nat.le_refl _) _).alloc (by simp) _).alloc (by simp; omega) _⟩
    · rw [gF_start]
      have h := BMap2.made (w.alloc (.cells #[.int .i64 time] 3))
      rw [World.size_alloc] at h
      exact h.alloc _
    · go_simp
    · go_simp
  case round =>
    obtain ⟨k, hk, rfl, hmap, h3, h5, hz, hbl⟩ := hrel
    have Hk := hide hk; clear hk
    have Hmap := hide hmap; clear hmap
    have Hbl := hide hbl; clear hbl
    by_cases hlt : k < n
    · obtain ⟨b, off, xs, A', c', rfl, hb, hx, hcell, hs⟩ := Ha.out.at_ hlt
      have hxl : xs.length ≤ 1000 := Hlen.out xs (List.mem_of_getElem? hx)
      rw [← Hbl.out.cell (p := ⟨b, off + k, none⟩) hb] at hcell
      have Hs := hide hs; clear hs
      have Hx := hide hx; clear hx
      clear hb
      obtain ⟨N, hN⟩ : ∃ N, xs.length = N := ⟨_, rfl⟩
      rw [hN] at hcell hxl Hs
      have HN := hide hN; clear hN
      go_wp2
      clear hcell
      go_loopg [23] N (fun gj i wi => ∃ j : Nat, j + gj = N ∧ i = .int .i64 j ∧ (∃ cnt, cnt ≤ k * 1000 + j ∧ BMap2 wi (w.heap.size + 1) cnt (gF xss time k j)) ∧ wi.cell? ⟨w.heap.size, 0, none⟩ = some (.int .i64 time) ∧ wi.cell? ⟨w.heap.size + 1 + 1, 0, none⟩ = some (.map (some (w.heap.size + 1))) ∧ w.heap.size + 1 + 1 < wi.heap.size ∧ Below w.heap.size w wi)
      case atStart => exact ⟨0, by omega, rfl, by simpa using Hmap.out, h3, h5, hz, Hbl.out⟩
      case round =>
        clear h3 h5 hz
        obtain ⟨j, hj, rfl, hmapj, h3, h5, hz, hblj⟩ := hrel
        have Hj := hide hj; clear hj
        have Hmapj := hide hmapj; clear hmapj
        have Hblj := hide hblj; clear hblj
        by_cases hlt2 : j < N
        · obtain ⟨b', off', d, rfl, hb', hd, hcl⟩ := Hs.out.at_ hlt2
          obtain ⟨g0, g1, g2, g3, g4, g5, g6, g7, g8⟩ := hcl.keep (w' := wr) (fun o => Hblj.out.cell (p := ⟨b', o, none⟩) hb')
          have Hd := hide hd; clear hd
          clear hcl hb'
          have hz0 : w.heap.size < wr.heap.size := by omega
          have hz1 : w.heap.size + 1 < wr.heap.size := by omega
          rcases Bool.eq_false_or_eq_true (d.kind == 4 && decide (d.time ≤ time)) with hm | hm
          · have hm1 : (d.kind == 4) = true := (Bool.and_eq_true _ _ ▸ hm).1
            have hm2 : d.time ≤ time := by have := (Bool.and_eq_true _ _ ▸ hm).2; simpa using this
            have Hm := hide hm; clear hm
            obtain ⟨cnt, hcnt, hbm⟩ := Hmapj.out
            have Hbm := hide (hbm.alloc (.cells (#[.int .i64 d.firm, .int .i64 d.seq, .int .i64 d.time, .int .i64 d.kind, .int .i64 d.a, .int .u64 d.ref, .int .u64 d.aux, .int .u64 d.prev, .int .u64 d.tag]) 29)); clear hbm
            have Hw1 := hide (nat_wf (k := k) (by omega))
            have Hw2 := hide (Hwf.out xs (List.mem_of_getElem? Hx.out) d (List.mem_of_getElem? Hd.out)).2
            go_wp2_with (at_mapUpdate; refine wpList_mapUpd2 rfl (.tmp 36) (.tmp 40) (.const (.bool true)) rfl (w.heap.size + 1) cnt (gF xss time k j) k d.a true rfl rfl rfl Hbm.out (by omega) Hw1.out Hw2.out ?_; intro w6 hm6 hg6; have Hm6 := hide hm6; clear hm6; have Hg6 := hide hg6; clear hg6)
            go_roundg (N - (j + 1))
            case measure => have := Hj.out; omega
            case rel =>
              have hzz : w.heap.size + 1 + 1 < (wr.alloc (.cells (#[.int .i64 d.firm, .int .i64 d.seq, .int .i64 d.time, .int .i64 d.kind, .int .i64 d.a, .int .u64 d.ref, .int .u64 d.aux, .int .u64 d.prev, .int .u64 d.tag]) 29)).heap.size := by simp; omega
              refine ⟨j + 1, by omega, by go_num, ⟨cnt + 1, by omega, ?_⟩, ?_, ?_, Nat.lt_of_lt_of_le hzz Hg6.out.size, ?_⟩
              · have h := Hm6.out
                rw [gF_hit Hx.out Hd.out Hm.out] at h
                exact h
              · rw [Hg6.out.cell_far ⟨w.heap.size, 0, none⟩ (by show w.heap.size < _; omega) (some_ne (a := w.heap.size) (by omega))]
                exact (World.cell?_alloc_lt wr _ _ hz0).trans h3
              · rw [Hg6.out.cell_far ⟨w.heap.size + 1 + 1, 0, none⟩ hzz (some_ne (a := w.heap.size + 1 + 1) (by omega))]
                exact (World.cell?_alloc_lt wr _ _ hz).trans h5
              · exact (Hblj.out.alloc Hblj.out.size _).grown Hg6.out (by have := Hblj.out.size; simp; omega) (fun k e => by injection e with e; omega)
          · have Hm := hide hm
            obtain ⟨cnt, hcnt, hbm⟩ := Hmapj.out
            have Hbm := hide (hbm.alloc (.cells (#[.int .i64 d.firm, .int .i64 d.seq, .int .i64 d.time, .int .i64 d.kind, .int .i64 d.a, .int .u64 d.ref, .int .u64 d.aux, .int .u64 d.prev, .int .u64 d.tag]) 29)); clear hbm
            rcases Bool.eq_false_or_eq_true (d.kind == 4) with hm1 | hm1
            · have hm2 : ¬ d.time ≤ time := by
                intro h
                rw [hm1, decide_eq_true h] at hm
                cases hm
              clear hm
              go_wp2
              go_roundg (N - (j + 1))
              case measure => have := Hj.out; omega
              case rel => exact ⟨j + 1, by omega, by go_num, ⟨cnt, by omega, by rw [gF_skip Hx.out Hd.out Hm.out]; exact Hbm.out⟩, (World.cell?_alloc_lt wr _ _ hz0).trans h3, (World.cell?_alloc_lt wr _ _ hz).trans h5, by simp; omega, Hblj.out.alloc Hblj.out.size _⟩
            · clear hm
              go_wp2
              go_roundg (N - (j + 1))
              case measure => have := Hj.out; omega
              case rel => exact ⟨j + 1, by omega, by go_num, ⟨cnt, by omega, by rw [gF_skip Hx.out Hd.out Hm.out]; exact Hbm.out⟩, (World.cell?_alloc_lt wr _ _ hz0).trans h3, (World.cell?_alloc_lt wr _ _ hz).trans h5, by simp; omega, Hblj.out.alloc Hblj.out.size _⟩
        · have hjN : j = N := by have := Hj.out; omega
          have HjN := hide hjN; clear hjN
          obtain ⟨cnt, hcnt, hbm⟩ := Hmapj.out
          have Hbm := hide hbm; clear hbm
          go_wp2
          go_roundg (n - (k + 1))
          case measure => have := Hk.out; omega
          case rel => exact ⟨k + 1, by omega, by go_num, ⟨cnt, by have := HjN.out; omega, by rw [← gF_next Hx.out, HN.out, ← HjN.out]; exact Hbm.out⟩, h3, h5, hz, Hblj.out⟩
    · have hkn : k = n := by have := Hk.out; omega
      subst hkn
      obtain ⟨cnt, hcnt, hbm⟩ := Hmap.out
      have Hbm := hide hbm; clear hbm
      have hxl := Ha.out.1
      have Hxl := hide hxl; clear hxl
      obtain ⟨wo, rfl⟩ : ∃ wo : World, wo = wr := ⟨_, rfl⟩
      have how : w.heap.size ≤ wo.heap.size := Hbl.out.size
      go_wp2
      go_loopg [10, 45] k (fun gk v i wi => ∃ (q : Nat) (Ao : Option Addr) (co : Nat), q + gk = k ∧ i = .int .i64 q ∧ v = .slice Ao q co ∧ OwS wi wo.heap.size (.slice Ao q co) q (forcedL xss time q) ∧ BMap2 wi (w.heap.size + 1) cnt (gF xss time k 0) ∧ wi.cell? ⟨w.heap.size, 0, none⟩ = some (.int .i64 time) ∧ wi.cell? ⟨w.heap.size + 1 + 1, 0, none⟩ = some (.map (some (w.heap.size + 1))) ∧ wo.heap.size ≤ wi.heap.size ∧ Below w.heap.size w wi)
      case atStart => exact ⟨0, none, 0, by omega, rfl, rfl, OwS.nil _ _, Hbm.out, h3, h5, Nat.le_refl _, Hbl.out⟩
      case round =>
        clear h3 h5
        have Hz := hide hz; clear hz
        obtain ⟨q, Ao, co, hq, rfl, rfl, hos, hbm, h3, h5, hws, hblq⟩ := hrel
        have Hq := hide hq; clear hq
        have Hos := hide hos; clear hos
        have Hbmq := hide hbm; clear hbm
        have Hblq := hide hblq; clear hblq
        by_cases hlt3 : q < k
        · obtain ⟨b, off, xs, A', c', rfl, hb, hx, hcell, hs⟩ := Ha.out.at_ hlt3
          have hxs : ∀ c ∈ xs, (Lit.int .i64 c.seq).wf = true := fun c hc => (Hwf.out xs (List.mem_of_getElem? hx) c hc).1
          have Hxs := hide hxs; clear hxs
          have hxl : xs.length ≤ 1000 := Hlen.out xs (List.mem_of_getElem? hx)
          rw [← Hblq.out.cell (p := ⟨b, off + q, none⟩) hb] at hcell
          have Hs := hide ((hs.below Hblq.out).more Hblq.out.size); clear hs
          have Hx := hide hx; clear hx
          clear hb
          obtain ⟨N, hN⟩ : ∃ N, xs.length = N := ⟨_, rfl⟩
          rw [hN] at hcell hxl Hs
          have HN := hide hN; clear hN
          have hz0 : w.heap.size < wr.heap.size := by have := Hz.out; omega
          have hz1 : w.heap.size + 1 < wr.heap.size := by have := Hz.out; omega
          have hz2 : w.heap.size + 1 + 1 < wr.heap.size := by have := Hz.out; omega
          go_wp2_with fail
          refine (clone_any A' N c' xs _ ((Hs.out.alloc (Nat.le_refl _) _).more (by simp)) (by omega)).mono ?_
          rintro e w2 ⟨A2, c2, rfl, ho2, hb2⟩
          have hc2 := fun (b o : Nat) (hb : b < wr.heap.size + 1) => hb2.cell (p := ⟨b, o, none⟩) (by simpa using hb)
          have p3 : w2.cell? ⟨w.heap.size, 0, none⟩ = some (.int .i64 time) := (hc2 _ 0 (by omega)).trans ((World.cell?_alloc_lt wr _ _ hz0).trans h3)
          have p5 : w2.cell? ⟨w.heap.size + 1 + 1, 0, none⟩ = some (.map (some (w.heap.size + 1))) := (hc2 _ 0 (by omega)).trans ((World.cell?_alloc_lt wr _ _ hz2).trans h5)
          have p11 : w2.cell? ⟨wr.heap.size, 0, none⟩ = some (.int .i64 (q : Int)) := (hc2 _ 0 (by omega)).trans (by rw [World.cell?_alloc_new]; rfl)
          have pm : BMap2 w2 (w.heap.size + 1) cnt (gF xss time k 0) := (Hbmq.out.alloc _).below hb2
          have hb12 : Below wr.heap.size wr w2 := ((Below.refl _ wr).alloc (Nat.le_refl _) _).trans (hb2.mono (by simp))
          have hdel := delete_own (a1 := .pointer (some ⟨w.heap.size, 0, none⟩)) (a2 := .pointer (some ⟨w.heap.size + 1 + 1, 0, none⟩)) (a3 := .pointer (some ⟨wr.heap.size, 0, none⟩)) (pr := delB time (gF xss time k 0) (q : Int)) ho2 hb2.size (by omega)
            (fun g hg => predC_at p3 p5 p11 pm (by simp at hg; omega) (by simp at hg; omega) (by simp at hg; omega) (by simp at hg; omega) (nat_wf (by omega)) Hxs.out)
          have Hdel := hide hdel; clear hdel hc2
          clear p3 p5 p11 ho2 hb2
          have Hpm := hide pm; clear pm
          have Hb12 := hide hb12; clear hb12
          go_wp2_with fail
          refine Hdel.out.mono ?_
          clear Hdel
          generalize hys : keepC (delB time (gF xss time k 0) (q : Int)) xs = ys
          have Hys := hide hys; clear hys
          rintro e w3 ⟨A3, c3, rfl, hs3, hf3, hb3⟩
          have hb13 : Below wr.heap.size wr w3 := Hb12.out.trans (hb3.mono (by simp))
          have os4 := (Hos.out.below hb13).below ((Below.refl _ w3).alloc (Nat.le_refl _) (.cells #[.slice A3 ys.length c3] 33))
          have hc4 : (w3.alloc (.cells #[.slice A3 ys.length c3] 33)).cell? ⟨w3.heap.size, 0, none⟩ = some (.slice A3 ys.length c3) := by rw [World.cell?_alloc_new]; rfl
          have hs4 : SlC (w3.alloc (.cells #[.slice A3 ys.length c3] 33)) (w3.alloc (.cells #[.slice A3 ys.length c3] 33)).heap.size A3 ys.length ys := (hs3.alloc (Nat.le_refl _) _).more (by simp)
          have hf4 : ∀ ad, A3 = some ad → ad.block < (w3.alloc (.cells #[.slice A3 ys.length c3] 33)).heap.size ∧ (Value.slice Ao q co).ownBlock ≠ some ad.block := fun ad e => by
            have h1 := hf3 ad e
            refine ⟨by simp; omega, fun e2 => ?_⟩
            have h2 := (Hos.out.row _ e2).2
            simp at h1
            omega
          have Os4 := hide os4; clear os4
          have Hc4 := hide hc4; clear hc4
          have Hs4 := hide hs4; clear hs4
          have Hf4 := hide hf4; clear hf4
          have Hb13 := hide hb13; clear hb13
          clear hs3 hf3 hb3
          go_wp2_with (at_builtin; refine wpList_appS rfl (.tmp 50) (.tmp 55) rfl (.slice Ao q co) rfl w3.heap.size rfl wo.heap.size q (forcedL xss time q) ys A3 c3 Os4.out Hc4.out Hs4.out Hf4.out (by omega) (by have := Hb13.out.size; simp; omega) ?_; intro A5 c5 w5 ho5 hg5; have Ho5 := hide ho5; clear ho5; have Hg5 := hide hg5; clear hg5)
          go_roundg (k - (q + 1))
          case measure => have := Hq.out; omega
          case rel =>
            have hb4 : Below wr.heap.size wr (w3.alloc (.cells #[.slice A3 ys.length c3] 33)) := Hb13.out.alloc Hb13.out.size _
            have hrow := fun b e => (Hos.out.row b e).1
            have hne : ∀ b, b < wo.heap.size → some b ≠ (Value.slice Ao q co).ownBlock := fun b hb e => by have := hrow b e.symm; omega
            refine ⟨q + 1, A5, c5, by omega, by go_num, rfl, ?_, ?_, ?_, ?_, ?_, ?_⟩
            · rw [forcedL_snoc Hx.out Hxl.out, Hys.out]; exact Ho5.out
            · exact ((Hbmq.out).below hb4).kept Hg5.out (hne _ (by have := Hz.out; omega))
            · rw [Hg5.out.cell_far ⟨w.heap.size, 0, none⟩ (by have := hb4.size; show w.heap.size < _; omega) (hne _ (by have := Hz.out; show w.heap.size < _; omega)), hb4.cell (p := ⟨w.heap.size, 0, none⟩) hz0]
              exact h3
            · rw [Hg5.out.cell_far ⟨w.heap.size + 1 + 1, 0, none⟩ (by have := hb4.size; show w.heap.size + 1 + 1 < _; omega) (hne _ Hz.out), hb4.cell (p := ⟨w.heap.size + 1 + 1, 0, none⟩) hz2]
              exact h5
            · have := hb4.size; have := Hg5.out.size; omega
            · exact (Hblq.out.trans (hb4.mono Hblq.out.size)).grown Hg5.out (by have := hb4.size; omega) (fun b e => by have := hrow b e; omega)
        · have hqk : q = k := by have := Hq.out; omega
          subst hqk
          have Hord := hide (order_any Ao q co (forcedL xss time q) wr Hos.out.slS (by omega) tot Ht.out htot)
          go_wp2_with fail
          refine Hord.out.mono ?_
          clear Hord
          rintro e w7 ⟨A7, c7, rfl, ho7, hb7⟩
          have Ho7 := hide (ho7.less Hblq.out.size); clear ho7
          have Hb7 := hide (Hblq.out.trans (hb7.mono Hblq.out.size)); clear hb7
          go_wp2
          go_ret
          exact ⟨A7, c7, rfl, Ho7.out, Hb7.out⟩
end Go.Proofs.Ythpbjceajnaokaa
