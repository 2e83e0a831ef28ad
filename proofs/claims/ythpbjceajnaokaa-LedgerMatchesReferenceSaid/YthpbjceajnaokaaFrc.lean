/- The reference's force and At. Condition: chains of at most 40 claims. -/
import Derived.Test.YthpbjceajnaokaaPut
import Derived.Test.YthpbjceajnaokaaTpl
namespace Go.Proofs.Ythpbjceajnaokaa
open Go.RowKit

/-- Whether a claim of a chain is left out, by the reference. -/
def frcB (T : Int) (xs : List Cl) (c : Cl) : Bool := (decide (T < c.time) || (c.kind == 4)) || goneL T xs c.seq
theorem frcB_is {xss : List (List Cl)} {T : Int} {i n : Nat} {xs : List Cl} (hx : xss[i]? = some xs) (hl : xss.length = n) : delB T (gF xss T n 0) (i : Int) = frcB T xs := by
  funext c
  unfold delB frcB
  rw [gF_is hx hl]
theorem frc_more {T : Int} {xs : List Cl} {k : Nat} {d : Cl} {s : Int} (hd : xs[k]? = some d) : goneL T (xs.take (k + 1)) s = (goneL T (xs.take k) s || (d.kind == 4 && decide (d.time ≤ T) && d.a == s)) := by
  rw [take_snoc hd, goneL_snoc]
def FrcPost (T : Int) (xs : List Cl) (w : World) (e : Ending) (w' : World) : Prop :=
  ∃ A c, e = .returned (.slice A (keepC (frcB T xs) xs).length c) ∧ OwC w' w.heap.size (.slice A (keepC (frcB T xs) xs).length c) (keepC (frcB T xs) xs).length (keepC (frcB T xs) xs) ∧ Below w.heap.size w w'

set_option maxRecDepth 100000 in
set_option maxHeartbeats 4000000 in
theorem force_any (A : Option Addr) (n ca : Nat) (T : Int) (xs : List Cl) (w : World) (ha : SlC w w.heap.size A n xs) (hn : n ≤ 40) :
    Calls Try.prog 56 #[.slice A n ca, .int .i64 T] w (FrcPost T xs w) := by
  have Ha := hide ha; clear ha
  go_enter Try.func56, Try.ntmps56
  go_wp2
  go_loopg [5, 6] n (fun gk sv si wr => ∃ (i m c : Nat) (A5 : Option Addr), i ≤ n ∧ n - i ≤ gk ∧ sv = .slice A5 m c ∧ si = .int .i64 (i : Int) ∧ OwC wr w.heap.size (.slice A5 m c) m (keepC (frcB T xs) (xs.take i)) ∧ m ≤ i ∧ Below w.heap.size w wr)
  case atStart => exact ⟨0, 0, 0, _, by omega, by omega, rfl, rfl, OwC.empty (Nat.le_refl _), by omega, (Below.refl _ _).alloc (Nat.le_refl _) _⟩
  case round =>
    obtain ⟨i, m, c5, A5, hi, hgk, rfl, rfl, hown, hmi, hbl⟩ := hrel
    have Hown := hide hown; clear hown
    have Hbl := hide hbl; clear hbl
    by_cases hlt : i < n
    · obtain ⟨b, off, c, rfl, hb, hx, hc⟩ := Ha.out.at_ hlt
      have hc1 := hc.keep (w' := wr) (fun o => Hbl.out.cell (p := ⟨b, o, none⟩) hb)
      have Hc1 := hide hc1
      obtain ⟨u0, u1, u2, u3, u4, u5, u6, u7, u8⟩ := hc1
      have Hx := hide hx
      clear hx hc
      have hb2 : b < w.heap.size := hb
      have z1 : (i : Int) < (n : Int) := by omega
      obtain ⟨g0, hg0⟩ : ∃ q, q = (decide (T < c.time) || c.kind == 4) := ⟨_, rfl⟩
      have Hg0 := hide hg0
      clear hg0
      go_upto_region 5 with (fail)
      go_cut [7] (fun v wx => v = .bool g0 ∧ wx = wr)
      case first =>
        by_cases f1 : T < c.time
        · have He := hide (show g0 = true by rw [Hg0.out, decide_eq_true f1]; rfl)
          go_wp2_with fail
          go_meet
          exact ⟨by rw [He.out], rfl⟩
        · rcases Bool.eq_false_or_eq_true (c.kind == 4) with f2 | f2
          · have He := hide (show g0 = true by rw [Hg0.out, f2]; simp)
            go_wp2_with fail
            go_meet
            exact ⟨by rw [He.out], rfl⟩
          · have He := hide (show g0 = false by rw [Hg0.out, decide_eq_false f1, f2]; rfl)
            go_wp2_with fail
            go_meet
            exact ⟨by rw [He.out], rfl⟩
      case rest =>
      obtain ⟨rfl, hwc⟩ := hcut
      obtain rfl : wr = wc := hwc.symm
      clear u0 u1 u2 u3 u4 u5 u6 u7 u8
      go_wp2
      go_loopg [7, 8] n (fun gk sg sk wx => ∃ (k : Nat) (g : Bool), k ≤ n ∧ n - k ≤ gk ∧ sg = .bool g ∧ sk = .int .i64 (k : Int) ∧ g = (g0 || goneL T (xs.take k) c.seq) ∧ ∃ q, wx = wr.drewN q)
      case atStart => exact ⟨0, g0, by omega, by omega, rfl, rfl, by simp [goneL], 0, rfl⟩
      case round =>
        obtain ⟨k, g, hk, hgk2, rfl, rfl, hg, q, rfl⟩ := hrel
        have Hg := hide hg; clear hg
        by_cases hkl : k < n
        · obtain ⟨b', off', d, e, hb', hxd, hdc⟩ := Ha.out.at_ hkl
          injection e with e
          injection e with e1 e2
          subst e1 e2
          obtain ⟨v0, v1, v2, v3, v4, v5, v6, v7, v8⟩ := hdc.keep (fun o => Hbl.out.cell (p := ⟨b, o, none⟩) hb)
          obtain ⟨u0, u1, u2, u3, u4, u5, u6, u7, u8⟩ := Hc1.out
          have Hm := hide (frc_more (T := T) (s := c.seq) hxd)
          clear hxd hdc hb' v0 v1 v5 v6 v7 v8 u0 u2 u3 u4 u5 u6 u7 u8
          have z2 : (k : Int) < (n : Int) := by omega
          have z3 : (0 : Int) ≤ (k : Int) := by omega
          have z4 : (0 : Int) ≤ (i : Int) := by omega
          cases g
          · rcases Bool.eq_false_or_eq_true (d.kind == 4) with f1 | f1
            · by_cases f2 : d.time ≤ T
              · rcases Bool.eq_false_or_eq_true (d.a == c.seq) with f3 | f3
                · have Hr := hide (show true = (g0 || goneL T (xs.take (k + 1)) c.seq) by rw [Hm.out, f1, f3, decide_eq_true f2]; simp)
                  go_wp2
                  go_quiet (fail)
                  go_wp2
                  go_roundg (n - (k + 1))
                  case measure => omega
                  case rel => exact ⟨k + 1, true, by omega, by omega, rfl, by go_num, Hr.out, _, rfl⟩
                · have Hr := hide (show false = (g0 || goneL T (xs.take (k + 1)) c.seq) by rw [Hm.out, f3, Bool.and_false, Bool.or_false]; exact Hg.out)
                  go_wp2
                  go_quiet (fail)
                  go_wp2
                  go_roundg (n - (k + 1))
                  case measure => omega
                  case rel => exact ⟨k + 1, false, by omega, by omega, rfl, by go_num, Hr.out, _, rfl⟩
              · have Hr := hide (show false = (g0 || goneL T (xs.take (k + 1)) c.seq) by rw [Hm.out, decide_eq_false f2, Bool.and_false, Bool.false_and, Bool.or_false]; exact Hg.out)
                have f2b : decide (d.time ≤ T) = false := decide_eq_false f2
                clear f2
                go_wp2
                go_quiet (fail)
                go_wp2
                go_roundg (n - (k + 1))
                case measure => omega
                case rel => exact ⟨k + 1, false, by omega, by omega, rfl, by go_num, Hr.out, _, rfl⟩
            · have Hr := hide (show false = (g0 || goneL T (xs.take (k + 1)) c.seq) by rw [Hm.out, f1, Bool.false_and, Bool.false_and, Bool.or_false]; exact Hg.out)
              go_wp2
              go_quiet (fail)
              go_wp2
              go_roundg (n - (k + 1))
              case measure => omega
              case rel => exact ⟨k + 1, false, by omega, by omega, rfl, by go_num, Hr.out, _, rfl⟩
          · have Hr := hide (show true = (g0 || goneL T (xs.take (k + 1)) c.seq) by rw [Hm.out, ← Bool.or_assoc, ← Hg.out]; rfl)
            go_wp2
            go_quiet (fail)
            go_wp2
            go_roundg (n - (k + 1))
            case measure => omega
            case rel => exact ⟨k + 1, true, by omega, by omega, rfl, by go_num, Hr.out, _, rfl⟩
        · have hnk : n ≤ k := by omega
          have hgf : g = frcB T xs c := by
            rw [Hg.out, List.take_of_length_le (by rw [Ha.out.1]; exact hnk), Hg0.out]; rfl
          have hkeep := keepC_more (pr := frcB T xs) Hx.out g hgf.symm
          have Hkeep := hide hkeep
          clear hkeep hgf Hg
          have how : OwC (wr.drewN q) w.heap.size (.slice A5 m c5) m (keepC (frcB T xs) (xs.take i)) := Hown.out
          have hbq : Below w.heap.size w (wr.drewN q) := below_drewN Hbl.out q
          have hcq : IsCl (wr.drewN q) b (off + i * 9) c := Hc1.out
          obtain ⟨w2, hw2⟩ : ∃ V : World, V = wr.drewN q := ⟨_, rfl⟩
          rw [← hw2] at how hbq hcq ⊢
          have Hown2 := hide how
          have Hbl2 := hide hbq
          clear hw2 how hbq Hown Hbl Hc1
          cases g
          · obtain ⟨u0, u1, u2, u3, u4, u5, u6, u7, u8⟩ := hcq
            have hbase : w.heap.size ≤ (w2.alloc (.cells (#[.int .i64 c.firm, .int .i64 c.seq, .int .i64 c.time, .int .i64 c.kind, .int .i64 c.a, .int .u64 c.ref, .int .u64 c.aux, .int .u64 c.prev, .int .u64 c.tag]) 29)).heap.size := by have := Hbl2.out.size; rw [World.size_alloc]; omega
            go_wp2_with (at_builtin; refine wpList_app rfl (.tmp 70) (.tmp 75) rfl (.slice A5 m c5) rfl (some ⟨w2.heap.size, 0, none⟩) 1 1 rfl w.heap.size m (w2.heap.size + 1) (keepC (frcB T xs) (xs.take i)) [c] (Hown2.out.allocd _) (slc_one w2 c) (by omega) hbase ?_; intro A6 c6 w3 ho3 hg3 hat3; have Ho3 := hide ho3; clear ho3; have Hb3 := hide (Below.grown (Hbl2.out.alloc Hbl2.out.size (.cells (#[.int .i64 c.firm, .int .i64 c.seq, .int .i64 c.time, .int .i64 c.kind, .int .i64 c.a, .int .u64 c.ref, .int .u64 c.aux, .int .u64 c.prev, .int .u64 c.tag]) 29)) hg3 hbase Hown2.out.row); clear hg3 hat3)
            go_roundg (n - (i + 1))
            case measure => omega
            case rel => exact ⟨i + 1, m + 1, c6, A6, by omega, by omega, rfl, by go_num, by rw [Hkeep.out]; exact Ho3.out, by omega, Hb3.out⟩
          · clear hcq
            go_wp2
            go_roundg (n - (i + 1))
            case measure => omega
            case rel => exact ⟨i + 1, m, c5, A5, by omega, by omega, rfl, by go_num, by rw [Hkeep.out]; simpa using Hown2.out, by omega, Hbl2.out⟩
    · have hni : n ≤ i := by omega
      have hfin := Hown.out
      rw [List.take_of_length_le (by rw [Ha.out.1]; exact hni)] at hfin
      have hml : (keepC (frcB T xs) xs).length = m := hfin.len
      have Hfin := hide (And.intro hfin hml)
      clear hfin hml
      go_wp2
      go_ret
      exact ⟨A5, c5, by rw [Hfin.out.2]; rfl, by rw [Hfin.out.2]; exact Hfin.out.1, Hbl.out⟩

theorem forced_step {xss : List (List Cl)} {T : Int} {i n : Nat} {xs : List Cl} (hx : xss[i]? = some xs) (hl : xss.length = n) : forcedL xss T (i + 1) = forcedL xss T i ++ [keepC (frcB T xs) xs] := by
  rw [forcedL_snoc hx hl, frcB_is hx hl]

set_option maxRecDepth 100000 in
set_option maxHeartbeats 2000000 in
theorem atR_any (A : Option Addr) (n cap : Nat) (T : Int) (xss : List (List Cl)) (w : World) (ha : SlS w w.heap.size A n xss) (hn : n ≤ 100) (hlen : ∀ xs ∈ xss, xs.length ≤ 40)
    (tot : Nat) (ht : (forcedL xss T n).flatten.length = tot) (htot : tot < 40) :
    Calls Try.prog 31 #[.slice A n cap, .int .i64 T] w (OwnPost w.heap.size w tot (insF (forcedL xss T n).flatten)) := by
  have Ha := hide ha; clear ha
  have Ht := hide ht; clear ht
  have Hlen := hide hlen; clear hlen
  go_enter Try.func31, Try.ntmps31
  go_wp2
  go_loopg [5, 6] n (fun gk sv si wr => ∃ (i c : Nat) (A5 : Option Addr), i + gk = n ∧ sv = .slice A5 i c ∧ si = .int .i64 (i : Int) ∧ OwT wr w.heap.size (.slice A5 i c) i (forcedL xss T i) ∧ Below w.heap.size w wr)
  case atStart => exact ⟨0, 0, _, by omega, rfl, rfl, OwT.empty (Nat.le_refl _), (Below.refl _ _).alloc (Nat.le_refl _) _⟩
  case round =>
    obtain ⟨i, c, A5, hi, rfl, rfl, hown, hbl⟩ := hrel
    have Hown := hide hown; clear hown
    have Hbl := hide hbl; clear hbl
    by_cases hlt : i < n
    · obtain ⟨b, off, xs, A', c', rfl, hb, hx, hcell, hsl⟩ := Ha.out.at_ hlt
      have hx40 := Hlen.out xs (List.mem_of_getElem? hx)
      have Hx := hide hx
      rw [← Hbl.out.cell (p := ⟨b, off + i, none⟩) hb] at hcell
      have Hsl := hide ((hsl.below Hbl.out).more Hbl.out.size)
      clear hx hsl hb
      have z1 : (i : Int) < (n : Int) := by omega
      obtain ⟨N, hN⟩ : ∃ N, xs.length = N := ⟨_, rfl⟩
      rw [hN] at hcell Hsl hx40
      go_wp2_with fail
      refine (force_any A' N c' T xs _ Hsl.out hx40).mono ?_
      obtain ⟨ys, hys⟩ : ∃ l, l = keepC (frcB T xs) xs := ⟨_, rfl⟩
      have Hys := hide hys
      unfold FrcPost
      rw [← hys]
      clear hys hN
      rintro e w3 ⟨A3, c3, rfl, ho3, hb3⟩
      have os4 := (Hown.out.below hb3).below ((Below.refl _ w3).alloc (Nat.le_refl _) (.cells #[.slice A3 ys.length c3] 33))
      have hc4 : (w3.alloc (.cells #[.slice A3 ys.length c3] 33)).cell? ⟨w3.heap.size, 0, none⟩ = some (.slice A3 ys.length c3) := by rw [World.cell?_alloc_new]; rfl
      have hs4 : SlC (w3.alloc (.cells #[.slice A3 ys.length c3] 33)) (w3.alloc (.cells #[.slice A3 ys.length c3] 33)).heap.size A3 ys.length ys := (ho3.slc.alloc (Nat.le_refl _) _).more (by simp)
      have hf4 : 0 < ys.length → ∀ ad, A3 = some ad → ad.block < (w3.alloc (.cells #[.slice A3 ys.length c3] 33)).heap.size ∧ (Value.slice A5 i c).ownBlock ≠ some ad.block := fun hp ad e => by
        subst e
        have h1 := World.ownsRow.lt ho3 ad.block rfl
        refine ⟨by simp; omega, fun e2 => ?_⟩
        have h2 := (Hown.out.row _ e2).2
        omega
      have Os4 := hide os4; clear os4
      have Hc4 := hide hc4; clear hc4
      have Hs4 := hide hs4; clear hs4
      have Hf4 := hide hf4; clear hf4
      have Hb3 := hide hb3
      have hcap3 : ys.length ≤ c3 := ho3.cap_le
      clear hb3 ho3 hcell
      go_wp2_with (at_builtin; refine wpList_appT rfl (.tmp 14) (.tmp 21) rfl (.slice A5 i c) rfl w3.heap.size rfl w.heap.size i (forcedL xss T i) ys A3 c3 Os4.out Hc4.out Hs4.out Hf4.out hcap3 (by omega) (by have := Hb3.out.size; have := Hbl.out.size; simp; omega) ?_; intro A6 c6 w5 ho5 hg5; have Ho5 := hide ho5; clear ho5; have Hg5 := hide hg5; clear hg5)
      go_roundg (n - (i + 1))
      case measure => omega
      case rel =>
        have hb4 : Below wr.heap.size wr (w3.alloc (.cells #[.slice A3 ys.length c3] 33)) := Hb3.out.alloc Hb3.out.size _
        refine ⟨i + 1, c6, A6, by omega, rfl, by go_num, ?_, (Hbl.out.trans (hb4.mono Hbl.out.size)).grown Hg5.out (by have := hb4.size; have := Hbl.out.size; omega) (fun b e => (Hown.out.row b e).1)⟩
        have h := Ho5.out
        rw [Hys.out, ← forced_step Hx.out Ha.out.1] at h
        exact h
    · obtain rfl : i = n := by omega
      have Hord := hide (orderR_any A5 i c (forcedL xss T i) wr Hown.out.slT.slS (by omega) tot Ht.out htot)
      go_wp2_with fail
      refine Hord.out.mono ?_
      clear Hord
      rintro e w7 ⟨A7, c7, rfl, ho7, hb7⟩
      have Ho7 := hide (ho7.less Hbl.out.size); clear ho7
      have Hb7 := hide (Hbl.out.trans (hb7.mono Hbl.out.size)); clear hb7
      go_wp2
      go_ret
      exact ⟨A7, c7, rfl, Ho7.out, Hb7.out⟩
end Go.Proofs.Ythpbjceajnaokaa
