/- The walk of LedgerTimes. Condition: the arguments are readable. -/
import Derived.Test.YthpbjceajnaokaaTpl
import Derived.Test.YthpbjceajnaokaaLor
namespace Go.Proofs.Ythpbjceajnaokaa
open Go.RowKit

/-- The chains and what is in force as they lie. -/
def ZSt (w W : World) (B b o c3 : Nat) (xss : List (List Cl)) (D : Nat) (A : Option Addr) (n : Nat) (now : List Cl) : Prop := TSt w W B b o c3 xss ∧ SlC W D A n now ∧ D ≤ W.heap.size
theorem ZSt.below {w W W' : World} {B b o c3 D n : Nat} {xss : List (List Cl)} {A : Option Addr} {now : List Cl} (h : ZSt w W B b o c3 xss D A n now) (hb : Below W.heap.size W W') : ZSt w W' B b o c3 xss D A n now := by
  obtain ⟨h1, h2, h3⟩ := h
  have := hb.size
  exact ⟨h1.below hb, h2.below (hb.mono h3), by omega⟩
def cntB (L : List (List Cl)) (i : Nat) : Nat := (L.take i).flatten.length
theorem cntB_succ {L : List (List Cl)} {i : Nat} {l : List Cl} (h : L[i]? = some l) : cntB L (i + 1) = cntB L i + l.length := by
  unfold cntB
  rw [flat_take _ _ _ h, List.length_append]

theorem ZSt.head {w W : World} {B b o c3 D n : Nat} {xss : List (List Cl)} {A : Option Addr} {now : List Cl} (h : ZSt w W B b o c3 xss D A n now) {i : Nat} {xs : List Cl} (hi : i < 3) (hx : xss[i]? = some xs) :
    ∃ A' cc, W.cell? ⟨b, o + i, none⟩ = some (.slice A' xs.length cc) ∧ SlC W B A' xs.length xs := by
  obtain ⟨ys, A', cc, hy, h1, h2, _, _⟩ := h.1.cell hi
  rw [hx] at hy
  injection hy with hy
  subst hy
  exact ⟨A', cc, h1, h2⟩
theorem until_more {xs : List Cl} {k n : Nat} {s : Int} {d : Cl} (hk : k + 1 ≤ n) (hd : xs[n]? = some d) : untilL s ((xs.drop (k + 1)).take (n + 1 - (k + 1))) = if cancels s d then d.time else untilL s ((xs.drop (k + 1)).take (n - (k + 1))) := by
  have : (xs.drop (k + 1))[n - (k + 1)]? = some d := by rw [List.getElem?_drop, show k + 1 + (n - (k + 1)) = n by omega]; exact hd
  rw [show n + 1 - (k + 1) = n - (k + 1) + 1 by omega, take_snoc this, untilL_snoc]

/-- What is known of the latest claim about something. -/
def LatIs (a : Int) (now : List Cl) (fl : Bool) (x : Cl) : Prop := (fl = true ∧ x ∈ now ∧ aboutC 1 1 a x = true ∧ ∀ c ∈ now, aboutC 1 1 a c = true → ltC x c = false) ∨ (fl = false ∧ ∀ c ∈ now, aboutC 1 1 a c = false)
theorem latIs_of {a : Int} {now : List Cl} (hs : srt now) : LatIs a now (latestF 1 1 a now).isSome ((latestF 1 1 a now).getD zeroC) := by
  cases h : latestF 1 1 a now with
  | none => exact .inr ⟨rfl, latest_no h⟩
  | some x => exact .inl ⟨rfl, latest_yes hs h⟩

set_option maxRecDepth 100000 in
set_option maxHeartbeats 4000000 in
theorem times_walk (A0 A1 A2 : Option Addr) (n0 n1 n2 c0 c1 c2 : Nat) (aa : Int) (w : World) (h0 : RawsAt w w.heap.size A0 n0) (h1 : RawsAt w w.heap.size A1 n1) (h2 : RawsAt w w.heap.size A2 n2) (haa : 0 ≤ aa ∧ aa < 256) :
    Calls Try.prog 8 #[.agg #[.slice A0 n0 c0, .slice A1 n1 c1, .slice A2 n2 c2], .int .u8 aa] w fun e w' => e = .returned (.bool true) ∧ Below w.heap.size w w' := by
  have H := hide (And.intro h0 (And.intro h1 h2))
  have hbox := RBox.start (c0 := c0) (c1 := c1) (c2 := c2) h0 h1 h2
  have Hbx := hide hbox; clear h0 h1 h2 hbox
  go_enter Try.func8, Try.ntmps8
  go_upto_region 2 with (fail)
  refine (examples_any _).mono ?_
  rintro e w1 ⟨rfl, hb1⟩
  have g0 : w1.cell? ⟨w.heap.size, 0, none⟩ = some (.slice A0 n0 c0) := (hb1.cell (p := ⟨w.heap.size, 0, none⟩) (by simp)).trans (by rw [World.cell?_alloc_new]; rfl)
  have g1 : w1.cell? ⟨w.heap.size, 1, none⟩ = some (.slice A1 n1 c1) := (hb1.cell (p := ⟨w.heap.size, 1, none⟩) (by simp)).trans (by rw [World.cell?_alloc_new]; rfl)
  have g2 : w1.cell? ⟨w.heap.size, 2, none⟩ = some (.slice A2 n2 c2) := (hb1.cell (p := ⟨w.heap.size, 2, none⟩) (by simp)).trans (by rw [World.cell?_alloc_new]; rfl)
  have Hb1 := hide (((Below.refl _ w).alloc (Nat.le_refl _) (.cells #[.slice A0 n0 c0, .slice A1 n1 c1, .slice A2 n2 c2] 23)).trans (hb1.mono (by simp)))
  have Hz1 := hide (show w.heap.size < w1.heap.size by have := hb1.size; simp at this; omega)
  have Hbx1 := hide (Hbx.out.below (by simp) hb1)
  clear hb1 Hbx
  go_upto_region 5 with (fail)
  refine (chains_any A0 A1 A2 n0 n1 n2 c0 c1 c2 _ (H.out.1.keep (fun b o hb => Hb1.out.cell (p := ⟨b, o, none⟩) hb) Hb1.out.size) (H.out.2.1.keep (fun b o hb => Hb1.out.cell (p := ⟨b, o, none⟩) hb) Hb1.out.size) (H.out.2.2.keep (fun b o hb => Hb1.out.cell (p := ⟨b, o, none⟩) hb) Hb1.out.size)).mono ?_
  rintro e w2 ⟨ad, c3, xss, rfl, hsl2, hc3, hchn, hb2⟩
  obtain ⟨b, o, ead, hbb, -⟩ := hsl2.2 (by omega)
  injection ead with ead
  subst ead
  have T2 := hide (show TSt w w2 w2.heap.size b o c3 xss from ⟨Hbx1.out.below Hz1.out hb2, Nat.lt_of_lt_of_le Hz1.out hb2.size, Hb1.out.trans (hb2.mono (Nat.le_of_lt Hz1.out)), hsl2, Nat.le_refl _, hc3⟩)
  have Hchn := hide hchn
  have Hl := hide hsl2.1
  obtain ⟨B, hB⟩ : ∃ B, B = w2.heap.size := ⟨_, rfl⟩
  rw [← hB] at T2
  have Hwf := hide (show ∀ xs ∈ xss, ∀ c ∈ xs, wfC c from fun xs hx c hc => by
    obtain ⟨k, hk⟩ := List.getElem?_of_mem hx
    obtain ⟨j, hj⟩ := List.getElem?_of_mem hc
    exact okF_seq (okAt_parts (chk_at (hchn k xs hk).1.1 hj)).1)
  have Hl12 := hide (show ∀ xs ∈ xss, xs.length ≤ 12 from fun xs hx => by
    obtain ⟨k, hk⟩ := List.getElem?_of_mem hx
    exact (hchn k xs hk).2)
  clear hsl2 hchn hb2 g0 g1 g2 Hbx1 Hb1 Hz1 H hbb hB
  go_wp2
  go_loopg [7] 53 (fun gk st wr => ∃ T : Int, st = .int .i64 T ∧ -1 ≤ T ∧ T ≤ 51 ∧ (51 - T).toNat ≤ gk ∧ TSt w wr B b o c3 xss)
  case atStart => exact ⟨-1, rfl, by omega, by omega, by decide, T2.out⟩
  case round =>
    obtain ⟨T, rfl, hT1, hT2, hgk, ht⟩ := hrel
    have Ht := hide ht; clear ht T2
    by_cases hlt : T ≤ 50
    · obtain ⟨tot, htot⟩ : ∃ q, q = (forcedL xss T 3).flatten.length := ⟨_, rfl⟩
      have htl : tot < 40 := by have := forced_le xss T 3 Hl.out Hl12.out; omega
      have Htot := hide htot; clear htot
      go_wp2_with fail
      refine (at_any (some ⟨b, o, none⟩) 3 c3 T xss _ (Ht.out.2.2.2.1.slS.more Ht.out.2.2.2.2.1) (by omega) Hwf.out (fun xs hx => Nat.le_trans (Hl12.out xs hx) (by omega)) tot Htot.out.symm htl).mono ?_
      rintro e w3 ⟨A3, c4, rfl, ho3, hb3⟩
      have hnow1 : ∀ (i : Nat) (xs : List Cl) (c : Cl), xss[i]? = some xs → c ∈ xs → hasB (insF (forcedL xss T 3).flatten) c = !(delB T (gF xss T 3 0) (i : Int) c) := fun i xs c hx hc => now_mem Hchn.out Hl.out hx hc
      have hnow2 : srt (insF (forcedL xss T 3).flatten) := insF_srt _
      obtain ⟨now, hnow⟩ : ∃ l, l = insF (forcedL xss T 3).flatten := ⟨_, rfl⟩
      rw [← hnow] at hnow1 hnow2 ho3
      have HN := hide (And.intro hnow1 (And.intro hnow2 hnow))
      have z3 : ZSt w w3 B b o c3 xss w3.heap.size A3 tot now := ⟨Ht.out.below hb3, ho3.slc, Nat.le_refl _⟩
      obtain ⟨D, hD⟩ : ∃ D, D = w3.heap.size := ⟨_, rfl⟩
      rw [← hD] at z3
      have Z3 := hide z3
      clear hnow1 hnow2 hnow z3 hD ho3 hb3 Ht
      obtain ⟨L, hL⟩ : ∃ L, L = forcedL xss T 3 := ⟨_, rfl⟩
      have HL := hide hL
      go_wp2
      go_loopg [9, 10] 3 (fun gk sc si wr => ∃ (i cnt : Nat), i + gk = 3 ∧ sc = .int .i64 (cnt : Int) ∧ si = .int .i64 (i : Int) ∧ cnt = cntB (forcedL xss T 3) i ∧ ZSt w wr B b o c3 xss D A3 tot now)
      case atStart => exact ⟨0, 0, rfl, rfl, rfl, rfl, Z3.out⟩
      case round =>
        obtain ⟨i, cnt, hi, rfl, rfl, hcnt, hz⟩ := hrel
        have Hz := hide hz; clear hz Z3
        have Hcnt := hide hcnt; clear hcnt
        by_cases hi3 : i < 3
        · obtain ⟨xs, A', cc, hxs, -, -, -, -⟩ := Hz.out.1.cell hi3
          have hx12 := Hl12.out xs (List.mem_of_getElem? hxs)
          have hchk := (Hchn.out i xs hxs).1.1
          have hp1 : ∀ (k : Nat) (c : Cl), xs[k]? = some c → (!(delB T (gF xss T 3 0) (i : Int) c)) = isB T c (untilL c.seq (xs.drop (k + 1))) := fun k c hk => force_is hxs Hl.out hchk hk hlt
          have hp2 : ∀ c : Cl, c ∈ xs → hasB now c = !(delB T (gF xss T 3 0) (i : Int) c) := fun c hc => HN.out.1 i xs c hxs hc
          have hp3 : (forcedL xss T 3)[i]? = some (keepC (delB T (gF xss T 3 0) (i : Int)) xs) := by
            obtain ⟨ys, hy, he⟩ := forced_get (T := T) Hl.out hi3
            rw [hxs] at hy
            injection hy with hy
            rw [hy]; exact he
          obtain ⟨pr, hpr⟩ : ∃ pr, pr = delB T (gF xss T 3 0) (i : Int) := ⟨_, rfl⟩
          rw [← hpr] at hp1 hp2 hp3
          have hp4 : cntB (forcedL xss T 3) (i + 1) = cnt + (keepC pr xs).length := by rw [cntB_succ hp3, Hcnt.out]
          have HP := hide (And.intro hp1 (And.intro hp2 hp4))
          have Hxs := hide hxs
          clear hp1 hp2 hp3 hp4 hpr hxs hchk
          have t1 : (i : Int) < 3 := by omega
          have t2 : (0 : Int) ≤ (i : Int) := by omega
          go_wp2
          go_loopg [9, 11] 13 (fun gk sc sk wr => ∃ (k cnt2 : Nat), k ≤ xs.length ∧ xs.length - k ≤ gk ∧ sc = .int .i64 (cnt2 : Int) ∧ sk = .int .i64 (k : Int) ∧ cnt2 = cnt + (keepC pr (xs.take k)).length ∧ ZSt w wr B b o c3 xss D A3 tot now)
          case atStart => exact ⟨0, cnt, by omega, by omega, rfl, rfl, by simp [keepC], Hz.out⟩
          case round =>
            obtain ⟨k, cnt2, hk, hgk2, rfl, rfl, hcnt2, hz⟩ := hrel
            clear Hz
            have Hz := hide hz; clear hz
            have Hcnt2 := hide hcnt2; clear hcnt2
            obtain ⟨A', cc, hcell, hsl⟩ := Hz.out.head hi3 Hxs.out
            by_cases hkl : k < xs.length
            · obtain ⟨b2, o2, c, rfl, hb2, hx, hc⟩ := hsl.at_ hkl
              have Hx := hide hx; clear hx hsl
              obtain ⟨u0, u1, u2, u3, u4, u5, u6, u7, u8⟩ := hc
              have t3 : (k : Int) < (xs.length : Int) := by omega
              go_upto_region 17 with (fail)
              obtain ⟨W, hW⟩ : ∃ V, V = wr.alloc (.cells (#[.int .i64 c.firm, .int .i64 c.seq, .int .i64 c.time, .int .i64 c.kind, .int .i64 c.a, .int .u64 c.ref, .int .u64 c.aux, .int .u64 c.prev, .int .u64 c.tag]) 29) := ⟨_, rfl⟩
              have hbW : Below wr.heap.size wr W := by rw [hW]; exact (Below.refl _ _).alloc (Nat.le_refl _) _
              have hcW : IsCl W wr.heap.size 0 c := by rw [hW]; exact IsCl.block (heap_alloc_new wr _)
              have hzW : wr.heap.size < W.heap.size := by rw [hW]; simp
              rw [← hW]
              obtain ⟨BX, hBX⟩ : ∃ q, q = wr.heap.size := ⟨_, rfl⟩
              rw [← hBX] at hcW hzW ⊢
              have HW := hide (show ZSt w W B b o c3 xss D A3 tot now ∧ IsCl W BX 0 c ∧ BX < W.heap.size from ⟨Hz.out.below hbW, hcW, hzW⟩)
              clear hW hbW hcW hzW hBX u0 u1 u2 u3 u4 u5 u6 u7 u8 hcell hb2 Hz
              go_wp2
              go_loopg [13, 14] 13 (fun gk su sn wd => ∃ n : Nat, k + 1 ≤ n ∧ n ≤ xs.length ∧ xs.length - n ≤ gk ∧ su = .int .i64 (untilL c.seq ((xs.drop (k + 1)).take (n - (k + 1)))) ∧ sn = .int .i64 (n : Int) ∧ ZSt w wd B b o c3 xss D A3 tot now ∧ IsCl wd BX 0 c ∧ BX < wd.heap.size)
              case atStart => exact ⟨k + 1, Nat.le_refl _, hkl, by omega, by rw [Nat.sub_self]; rfl, by go_num, HW.out⟩
              case round =>
                obtain ⟨n, hn1, hn2, hgn, rfl, rfl, hz2, hbx, hbz⟩ := hrel
                clear HW
                have Hz2 := hide hz2; clear hz2
                have Hbx := hide (And.intro hbx hbz); clear hbx hbz
                obtain ⟨A2', cc2, hcell, hsl⟩ := Hz2.out.head hi3 Hxs.out
                by_cases hnl : n < xs.length
                · obtain ⟨b3, o3, d, rfl, hb3, hx, hd⟩ := hsl.at_ hnl
                  have hum := fun s : Int => until_more (s := s) hn1 hx
                  have Hum := hide (hum c.seq); clear hum hx hsl hb3
                  obtain ⟨v0, v1, v2, v3, v4, v5, v6, v7, v8⟩ := hd
                  obtain ⟨u0, u1, u2, u3, u4, u5, u6, u7, u8⟩ := Hbx.out.1.at0
                  have t4 : (n : Int) < (xs.length : Int) := by omega
                  have t5 : (0 : Int) ≤ (n : Int) := by omega
                  clear v0 v1 v5 v6 v7 v8 u0 u2 u3 u4 u5 u6 u7 u8
                  have hcs : cancels c.seq d = (d.kind == 4 && d.a == c.seq) := rfl
                  rcases Bool.eq_false_or_eq_true (d.kind == 4) with hk4 | hk4
                  · rcases Bool.eq_false_or_eq_true (d.a == c.seq) with ha | ha
                    · have Hcs := hide (show cancels c.seq d = true by rw [hcs, hk4, ha]; rfl); clear hcs
                      go_wp2
                      go_quiet (fail)
                      go_wp2
                      go_roundg (xs.length - (n + 1))
                      case measure => omega
                      case rel => exact ⟨n + 1, by omega, by omega, by omega, by rw [Hum.out, if_pos Hcs.out], by go_num, Hz2.out.below (below_drewN (Below.refl _ _) _), Hbx.out.1, Hbx.out.2⟩
                    · have Hcs := hide (show cancels c.seq d = false by rw [hcs, hk4, ha]; rfl); clear hcs
                      go_wp2
                      go_quiet (fail)
                      go_wp2
                      go_roundg (xs.length - (n + 1))
                      case measure => omega
                      case rel => exact ⟨n + 1, by omega, by omega, by omega, by rw [Hum.out, if_neg (by rw [Hcs.out]; decide)], by go_num, Hz2.out.below (below_drewN (Below.refl _ _) _), Hbx.out.1, Hbx.out.2⟩
                  · have Hcs := hide (show cancels c.seq d = false by rw [hcs, hk4]; rfl); clear hcs
                    go_wp2
                    go_quiet (fail)
                    go_wp2
                    go_roundg (xs.length - (n + 1))
                    case measure => omega
                    case rel => exact ⟨n + 1, by omega, by omega, by omega, by rw [Hum.out, if_neg (by rw [Hcs.out]; decide)], by go_num, Hz2.out.below (below_drewN (Below.refl _ _) _), Hbx.out.1, Hbx.out.2⟩
                · obtain rfl : n = xs.length := by omega
                  go_upto_region 23 with (fail)
                  have hfull : (xs.drop (k + 1)).take (xs.length - (k + 1)) = xs.drop (k + 1) := List.take_of_length_le (by rw [List.length_drop]; exact Nat.le_refl _)
                  rw [hfull]
                  clear hfull hn1 hn2 hgn hnl hcell hsl
                  have hcx := List.mem_of_getElem? Hx.out
                  have hb1 := HP.out.2.1 c hcx
                  have hb2 := HP.out.1 k c Hx.out
                  have hb3 := keepC_len (pr := pr) Hx.out
                  rw [hb2] at hb1 hb3
                  obtain ⟨u, hu⟩ : ∃ u, u = untilL c.seq (xs.drop (k + 1)) := ⟨_, rfl⟩
                  rw [← hu] at hb1 hb3 ⊢
                  have Hb := hide (And.intro hb1 hb3)
                  clear hb1 hb2 hb3 hcx hu
                  obtain ⟨u0, u1, u2, u3, u4, u5, u6, u7, u8⟩ := Hbx.out.1.at0
                  go_cut [15] (fun v wx => v = .bool (isB T c u) ∧ wx = wr)
                  case first =>
                    rcases Bool.eq_false_or_eq_true (c.kind == 4) with hk4 | hk4
                    · have hk4b : (c.kind != 4) = false := by unfold bne; rw [hk4]; rfl
                      have Hi := hide (show isB T c u = false by unfold isB; rw [hk4]; rfl)
                      clear hk4
                      go_wp2_with fail
                      go_meet
                      exact ⟨by rw [Hi.out], rfl⟩
                    · have hk4b : (c.kind != 4) = true := by unfold bne; rw [hk4]; rfl
                      by_cases h2 : c.time ≤ T
                      · by_cases h3 : T < u
                        · have Hi := hide (show isB T c u = true by unfold isB; rw [hk4, decide_eq_true h2, decide_eq_true h3]; rfl)
                          clear hk4
                          go_wp2_with fail
                          go_meet
                          exact ⟨by rw [Hi.out], rfl⟩
                        · have Hi := hide (show isB T c u = false by unfold isB; rw [hk4, decide_eq_true h2, decide_eq_false h3]; rfl)
                          clear hk4
                          go_wp2_with fail
                          go_meet
                          exact ⟨by rw [Hi.out], rfl⟩
                      · have Hi := hide (show isB T c u = false by unfold isB; rw [hk4, decide_eq_false h2]; rfl)
                        clear hk4
                        go_wp2_with fail
                        go_meet
                        exact ⟨by rw [Hi.out], rfl⟩
                  case rest =>
                    obtain ⟨rfl, hwc⟩ := hcut
                    obtain rfl : wr = wc := hwc.symm
                    have Kh := hide (has_any A3 tot c4 now c wr (Hz2.out.2.1.more Hz2.out.2.2) (by omega))
                    rw [Hb.out.1] at Kh
                    have hb3 := Hb.out.2
                    have hc2 : cnt2 + (if isB T c u = true then 1 else 0) = cnt + (keepC pr (xs.take (k + 1))).length := by rw [hb3, Hcnt2.out]; split <;> omega
                    have Hc2 := hide hc2
                    have hcb : cnt2 ≤ 1000 := by
                      have h1 := List.length_filter_le (fun c => !pr c) (xs.take k)
                      have h2 := Hcnt2.out
                      have h3 := Hcnt.out
                      have h4 := forced_le xss T 3 Hl.out Hl12.out
                      have h5 : cntB (forcedL xss T 3) i ≤ (forcedL xss T 3).flatten.length := flat_take_le _ _
                      have h6 : (xs.take k).length ≤ 12 := by rw [List.length_take]; omega
                      unfold keepC at h2
                      omega
                    clear hc2 hb3
                    rcases Bool.eq_false_or_eq_true (isB T c u) with hib | hib
                    · rw [hib] at Kh Hc2 ⊢
                      clear hib
                      go_wp2_with fail
                      refine Kh.out.mono ?_
                      rintro e w6 ⟨rfl, hb6⟩
                      have Hz6 := hide (Hz2.out.below hb6)
                      clear hb6 Kh Hbx u0 u1 u2 u3 u4 u5 u6 u7 u8
                      go_wp2
                      go_roundg (xs.length - (k + 1))
                      case measure => omega
                      case rel => exact ⟨k + 1, cnt2 + 1, by omega, by omega, by go_num, by go_num, by have h := Hc2.out; simpa using h, Hz6.out⟩
                    · rw [hib] at Kh Hc2 ⊢
                      clear hib
                      go_wp2_with fail
                      refine Kh.out.mono ?_
                      rintro e w6 ⟨rfl, hb6⟩
                      have Hz6 := hide (Hz2.out.below hb6)
                      clear hb6 Kh Hbx u0 u1 u2 u3 u4 u5 u6 u7 u8
                      go_wp2
                      go_roundg (xs.length - (k + 1))
                      case measure => omega
                      case rel => exact ⟨k + 1, cnt2, by omega, by omega, rfl, by go_num, by have h := Hc2.out; simpa using h, Hz6.out⟩
            · obtain rfl : k = xs.length := by omega
              have hfin := Hcnt2.out
              rw [List.take_of_length_le (Nat.le_refl _), ← HP.out.2.2] at hfin
              have Hfin := hide hfin
              clear hfin
              go_wp2
              go_roundg (3 - (i + 1))
              case measure => omega
              case rel => exact ⟨i + 1, cnt2, by omega, rfl, by go_num, Hfin.out, Hz.out⟩
        · obtain rfl : i = 3 := by omega
          have hct : cnt = tot := by
            rw [Hcnt.out, Htot.out]
            unfold cntB
            rw [List.take_of_length_le (by unfold forcedL; simp)]
          subst hct
          clear Hcnt
          go_upto_region 28 with (fail)
          go_wp2_with fail
          refine (latest_of (some ⟨b, o, none⟩) 3 c3 cnt T 1 1 _ now _ (by omega) (fun V hV => by
            have hz := Hz.out.below hV
            have h := at_any (some ⟨b, o, none⟩) 3 c3 T xss V (hz.1.2.2.2.1.slS.more hz.1.2.2.2.2.1) (by omega) Hwf.out (fun xs hx => Nat.le_trans (Hl12.out xs hx) (by omega)) cnt Htot.out.symm htl
            rw [HN.out.2.2]
            exact h)).mono ?_
          rintro e w6 ⟨rfl, hb6⟩
          have hlat := latIs_of (a := aa % 8) HN.out.2.1
          obtain ⟨fl, hfl⟩ : ∃ q, q = (latestF 1 1 (aa % 8) now).isSome := ⟨_, rfl⟩
          obtain ⟨x, hx⟩ : ∃ q, q = (latestF 1 1 (aa % 8) now).getD zeroC := ⟨_, rfl⟩
          rw [← hfl, ← hx] at hlat
          rw [← hfl, ← hx]
          have Hlat := hide hlat
          have Hz6 := hide (Hz.out.below hb6)
          clear hfl hx hlat hb6 Hz
          go_upto_region 29 with (fail)
          obtain ⟨W, hW⟩ : ∃ V, V = w6.alloc (.cells (#[.int .i64 x.firm, .int .i64 x.seq, .int .i64 x.time, .int .i64 x.kind, .int .i64 x.a, .int .u64 x.ref, .int .u64 x.aux, .int .u64 x.prev, .int .u64 x.tag]) 29) := ⟨_, rfl⟩
          have hbW : Below w6.heap.size w6 W := by rw [hW]; exact (Below.refl _ _).alloc (Nat.le_refl _) _
          have hcW : IsCl W w6.heap.size 0 x := by rw [hW]; exact IsCl.block (heap_alloc_new w6 _)
          have hzW : w6.heap.size < W.heap.size := by rw [hW]; simp
          rw [← hW]
          obtain ⟨BX, hBX⟩ : ∃ q, q = w6.heap.size := ⟨_, rfl⟩
          rw [← hBX] at hcW hzW ⊢
          have HW := hide (show ZSt w W B b o c3 xss D A3 cnt now ∧ IsCl W BX 0 x ∧ BX < W.heap.size from ⟨Hz6.out.below hbW, hcW, hzW⟩)
          clear hW hbW hcW hzW hBX Hz6
          go_cut [148] (fun v wx => v = .bool false ∧ ZSt w wx B b o c3 xss D A3 cnt now ∧ IsCl wx BX 0 x ∧ BX < wx.heap.size)
          case first =>
            have hne : ((cnt : Int) != (cnt : Int)) = false := by simp
            rcases Hlat.out with ⟨rfl, hx1, hx2, -⟩ | ⟨rfl, -⟩
            · have Kh := hide (has_any A3 cnt c4 now x W (HW.out.1.2.1.more HW.out.1.2.2) (by omega))
              have hhas : hasB now x = true := decide_eq_true hx1
              rw [hhas] at Kh
              unfold aboutC at hx2
              simp only [Bool.and_eq_true, decide_eq_true_eq] at hx2
              have f1 : (x.firm != 1) = false := by rw [bne_eq_false_iff_eq]; exact hx2.1.1
              have f2 : (x.a != aa % 8) = false := by rw [bne_eq_false_iff_eq]; exact hx2.2
              clear hx1 hx2 hhas
              obtain ⟨u0, u1, u2, u3, u4, u5, u6, u7, u8⟩ := HW.out.2.1.at0
              go_wp2_with fail
              refine Kh.out.mono ?_
              rintro e w7 ⟨rfl, hb7⟩
              have hz7 := HW.out.1.below hb7
              have hbx7 := HW.out.2.1.keep (w' := w7) (fun o => hb7.cell (p := ⟨BX, o, none⟩) HW.out.2.2)
              have HW7 := hide (show ZSt w w7 B b o c3 xss D A3 cnt now ∧ IsCl w7 BX 0 x ∧ BX < w7.heap.size from ⟨hz7, hbx7, Nat.lt_of_lt_of_le HW.out.2.2 hb7.size⟩)
              clear hz7 hbx7 hb7 Kh u0 u1 u2 u3 u4 u5 u6 u7 u8
              obtain ⟨u0, u1, u2, u3, u4, u5, u6, u7, u8⟩ := HW7.out.2.1.at0
              go_wp2_with fail
              go_meet
              exact ⟨rfl, HW7.out⟩
            · go_wp2_with fail
              go_meet
              exact ⟨rfl, HW.out⟩
          case rest =>
            obtain ⟨rfl, hcut⟩ := hcut
            have HX := hide hcut
            clear hcut HW
            go_wp2
            go_loopg [18] cnt (fun gk sj wr => ∃ j : Nat, j ≤ cnt ∧ cnt - j ≤ gk ∧ sj = .int .i64 (j : Int) ∧ ZSt w wr B b o c3 xss D A3 cnt now ∧ IsCl wr BX 0 x ∧ BX < wr.heap.size)
            case atStart => exact ⟨0, by omega, by omega, rfl, HX.out⟩
            case round =>
              obtain ⟨j, hj, hgj, rfl, hst⟩ := hrel
              clear HX
              have HX := hide hst; clear hst
              by_cases hjc : j < cnt
              · obtain ⟨b4, o4, y, rfl, hb4, hy, hc4⟩ := HX.out.1.2.1.at_ hjc
                have hym := List.mem_of_getElem? hy
                obtain ⟨v0, v1, v2, v3, v4, v5, v6, v7, v8⟩ := hc4
                obtain ⟨u0, u1, u2, u3, u4, u5, u6, u7, u8⟩ := HX.out.2.1.at0
                have U0 := Wd.cell u0; have U1 := Wd.cell u1; have U2 := Wd.cell u2; have U3 := Wd.cell u3; have U4 := Wd.cell u4; have U5 := Wd.cell u5; have U6 := Wd.cell u6; have U7 := Wd.cell u7; have U8 := Wd.cell u8
                have V0 := Wd.cell v0; have V1 := Wd.cell v1; have V2 := Wd.cell v2; have V3 := Wd.cell v3; have V4 := Wd.cell v4; have V5 := Wd.cell v5; have V6 := Wd.cell v6; have V7 := Wd.cell v7; have V8 := Wd.cell v8
                clear v0 v1 v2 v3 v4 v5 v6 v7 v8 u0 u1 u2 u3 u4 u5 u6 u7 u8 hy hb4
                have t3 : (j : Int) < (cnt : Int) := by omega
                have t4 : (0 : Int) ≤ (j : Int) := by omega
                have Hin := hide hym; clear hym
                have Kb := fun p : Wd wr => hide (before_any x y p.w')
                go_upto_region 34 with (fail)
                go_cut [191] (fun v wx => v = .bool false ∧ Below wr.heap.size wr wx)
                case first =>
                  rcases Bool.eq_false_or_eq_true (y.firm == 1) with f1 | f1
                  · rcases Bool.eq_false_or_eq_true (y.kind == 1) with f2 | f2
                    · rcases Bool.eq_false_or_eq_true (y.a == aa % 8) with f3 | f3
                      · have hab : aboutC 1 1 (aa % 8) y = true := by
                          unfold aboutC
                          rw [beq_iff_eq] at f1 f2 f3
                          rw [decide_eq_true f1, decide_eq_true f2, decide_eq_true f3]; rfl
                        have hfl : fl = true ∧ ltC x y = false := by
                          rcases Hlat.out with ⟨h1, _, _, h2⟩ | ⟨_, h2⟩
                          · exact ⟨h1, h2 y Hin.out hab⟩
                          · rw [h2 y Hin.out] at hab; cases hab
                        obtain ⟨rfl, hbf⟩ := hfl
                        rw [hbf] at Kb
                        clear hab hbf
                        refine wp_region_grew (by kernel_rfl) (by kernel_rfl) ?_
                        iterate 37 (go_big_quiet_step ((go_at_call 33; exact grew_of (Kb _).out)))
                        refine wpQuiet_nil ?_
                        intro w8 hw8
                        obtain ⟨⟨w8, hb8⟩, rfl⟩ := hw8
                        go_wp2_with fail
                        go_meet
                        exact ⟨rfl, hb8⟩
                      · refine wp_region_grew (by kernel_rfl) (by kernel_rfl) ?_
                        iterate 37 (go_big_quiet_step (fail))
                        refine wpQuiet_nil ?_
                        intro w8 hw8
                        obtain ⟨⟨w8, hb8⟩, rfl⟩ := hw8
                        go_wp2_with fail
                        go_meet
                        exact ⟨rfl, hb8⟩
                    · refine wp_region_grew (by kernel_rfl) (by kernel_rfl) ?_
                      iterate 37 (go_big_quiet_step (fail))
                      refine wpQuiet_nil ?_
                      intro w8 hw8
                      obtain ⟨⟨w8, hb8⟩, rfl⟩ := hw8
                      go_wp2_with fail
                      go_meet
                      exact ⟨rfl, hb8⟩
                  · refine wp_region_grew (by kernel_rfl) (by kernel_rfl) ?_
                    iterate 37 (go_big_quiet_step (fail))
                    refine wpQuiet_nil ?_
                    intro w8 hw8
                    obtain ⟨⟨w8, hb8⟩, rfl⟩ := hw8
                    go_wp2_with fail
                    go_meet
                    exact ⟨rfl, hb8⟩
                case rest =>
                  obtain ⟨rfl, hb8⟩ := hcut
                  have HX8 := hide (show ZSt w wc B b o c3 xss D (some ⟨b4, o4, none⟩) cnt now ∧ IsCl wc BX 0 x ∧ BX < wc.heap.size from ⟨HX.out.1.below hb8, HX.out.2.1.keep (fun o => hb8.cell (p := ⟨BX, o, none⟩) HX.out.2.2), Nat.lt_of_lt_of_le HX.out.2.2 hb8.size⟩)
                  clear hb8 U0 U1 U2 U3 U4 U5 U6 U7 U8 V0 V1 V2 V3 V4 V5 V6 V7 V8 Kb
                  go_wp2
                  go_roundg (cnt - (j + 1))
                  case measure => omega
                  case rel => exact ⟨j + 1, by omega, by omega, by go_num, HX8.out⟩
              · go_wp2
                go_roundg (51 - (T + 1)).toNat
                case measure => omega
                case rel => exact ⟨T + 1, rfl, by omega, by omega, by omega, HX.out.1.1⟩
    · go_wp2
      go_ret
      exact ⟨rfl, Ht.out.2.2.1⟩
end Go.Proofs.Ythpbjceajnaokaa
