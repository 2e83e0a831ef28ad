/- The reference's Made makes a right chain. Condition: at most 12 claims. -/
import Derived.Test.YthpbjceajnaokaaApr
namespace Go.Proofs.Ythpbjceajnaokaa
open Go.RowKit

theorem field38_0 (v0 v1 : Value) (w : World) : (Instr.field 38 (.agg #[v0, v1]) 0).run Try.prog w = .ok v0 w := by kernel_rfl
/-- What is known of a chain that Made has made, with times up to a bound. -/
def MadeP (firm : Int) (bd : Int) (xs : List Cl) : Prop :=
  chkF (words [firm, 41]) firm xs = true ∧ ∀ c ∈ xs, c.time ≤ bd ∧ (0 ≤ c.ref ∧ c.ref < 18446744073709551616) ∧ (0 ≤ c.aux ∧ c.aux < 18446744073709551616) ∧ (0 ≤ c.prev ∧ c.prev < 18446744073709551616) ∧ (0 ≤ c.tag ∧ c.tag < 18446744073709551616) ∧ c.a ≤ 7
def MadePost (firm : Int) (most : Nat) (w : World) (e : Ending) (w' : World) : Prop :=
  ∃ ad m c xs, e = .returned (.slice (some ad) m c) ∧ SlC w' w'.heap.size (some ad) m xs ∧ m ≤ c ∧ m ≤ most ∧ w.heap.size ≤ ad.block ∧ Below w.heap.size w w' ∧ MadeP firm (3 * most) xs

theorem made_bounds {T T' x0 x1 x2 x3 aa ax rf : Int} {k most : Nat} (h1 : 0 ≤ T) (h2 : T ≤ 3 * (k : Int)) (hk : k ≤ most) (hm : most ≤ 12) (hx : (0 ≤ x0 ∧ x0 < 256) ∧ (0 ≤ x1 ∧ x1 < 256) ∧ (0 ≤ x2 ∧ x2 < 256) ∧ (0 ≤ x3 ∧ x3 < 256))
    (hT : wrap64 (T + wrap64 (x0.tmod 4)) = T') (ha : wrap64 (x2.tmod 8) = aa) (hax : IntKind.u64.wrap (IntKind.u64.wrap x3 * 1152921504606846976) = ax) (hrf : IntKind.u64.wrap x3 = rf) :
    (0 ≤ T' ∧ T' ≤ 3 * ((k + 1 : Nat) : Int)) ∧ aa ≤ 7 ∧ (0 ≤ rf ∧ rf < 18446744073709551616) ∧ (0 ≤ ax ∧ ax < 18446744073709551616) := by
  obtain ⟨⟨a1, a2⟩, _, ⟨b1, b2⟩, _⟩ := hx
  have e0 : x0.tmod 4 = x0 % 4 := Int.tmod_eq_emod_of_nonneg a1
  have e2 : x2.tmod 8 = x2 % 8 := Int.tmod_eq_emod_of_nonneg b1
  rw [e0] at hT
  rw [e2] at ha
  rw [IntWalk.wrap64_in _ (by omega)] at ha
  rw [IntWalk.wrap64_in (x0 % 4) (by omega), IntWalk.wrap64_in _ (by omega)] at hT
  refine ⟨by omega, by omega, by rw [← hrf]; exact u64_wrap_bd _, by rw [← hax]; exact u64_wrap_bd _⟩
theorem digC_bd (c : Cl) : 0 ≤ digC c ∧ digC c < 18446744073709551616 := stp_bd _ _
theorem prevD_bd (xs : List Cl) : 0 ≤ prevD xs ∧ prevD xs < 18446744073709551616 := by
  unfold prevD
  split
  · omega
  · exact digC_bd _
theorem made_more {firm : Int} {k m : Nat} {xs ys : List Cl} {c : Cl} {A A' : Option Addr} {cb n' c' : Nat} {er : Int} {w' : World} (hmp : MadeP firm (3 * (k : Int)) xs) (hf : c.firm = firm) (ht : c.time ≤ 3 * ((k + 1 : Nat) : Int)) (ha : c.a ≤ 7)
    (hr : 0 ≤ c.ref ∧ c.ref < 18446744073709551616) (hx : 0 ≤ c.aux ∧ c.aux < 18446744073709551616) (hres : AppRes (words [firm, 41]) A m cb xs c w' A' n' c' ys er) (hmk : m ≤ k) (hmc : m ≤ cb) (had : ∃ ad, A = some ad) :
    MadeP firm (3 * ((k + 1 : Nat) : Int)) ys ∧ n' ≤ k + 1 ∧ n' ≤ c' ∧ (∃ ad, A' = some ad) ∧ SlC w' w'.heap.size A' n' ys := by
  obtain ⟨h1, h2⟩ := hmp
  obtain ⟨hs, hc⟩ := hres
  have hold : ∀ d ∈ xs, d.time ≤ 3 * ((k + 1 : Nat) : Int) ∧ (0 ≤ d.ref ∧ d.ref < 18446744073709551616) ∧ (0 ≤ d.aux ∧ d.aux < 18446744073709551616) ∧ (0 ≤ d.prev ∧ d.prev < 18446744073709551616) ∧ (0 ≤ d.tag ∧ d.tag < 18446744073709551616) ∧ d.a ≤ 7 := by
    intro d hd
    obtain ⟨e1, e2⟩ := h2 d hd
    exact ⟨by omega, e2⟩
  rcases hc with ⟨hq, rfl, rfl, rfl, h5⟩ | ⟨hq, rfl, rfl, rfl, rfl, rfl⟩
  · refine ⟨⟨by rw [hf] at hq; exact hq, fun d hd => ?_⟩, by omega, h5, ?_, hs⟩
    · rcases List.mem_append.1 hd with hd | hd
      · exact hold d hd
      · simp only [List.mem_singleton] at hd
        subst hd
        exact ⟨ht, hr, hx, prevD_bd _, stp_bd _ _, ha⟩
    · obtain ⟨b, off, _, e, _⟩ := hs.at_ (k := m) (by omega)
      exact ⟨_, e⟩
  · exact ⟨⟨h1, hold⟩, by omega, hmc, had, hs⟩
theorem claim_keep {w3 w' : World} {b4 : Nat} {c : Cl} (hb : Below w3.heap.size w3 w') (h : IsCl w3 b4 0 c) (hz : b4 < w3.heap.size) :
    w'.cell? ⟨b4, 0, none⟩ = some (.int .i64 c.firm) ∧ w'.cell? ⟨b4, 1, none⟩ = some (.int .i64 c.seq) ∧ w'.cell? ⟨b4, 2, none⟩ = some (.int .i64 c.time) ∧ w'.cell? ⟨b4, 3, none⟩ = some (.int .i64 c.kind) ∧ w'.cell? ⟨b4, 4, none⟩ = some (.int .i64 c.a) ∧
      w'.cell? ⟨b4, 5, none⟩ = some (.int .u64 c.ref) ∧ w'.cell? ⟨b4, 6, none⟩ = some (.int .u64 c.aux) ∧ w'.cell? ⟨b4, 7, none⟩ = some (.int .u64 c.prev) ∧ w'.cell? ⟨b4, 8, none⟩ = some (.int .u64 c.tag) ∧ Below w3.heap.size w3 w' := by
  obtain ⟨h0, h1, h2, h3, h4, h5, h6, h7, h8⟩ := (h.keep (w' := w') (fun o => hb.cell (p := ⟨b4, o, none⟩) hz)).at0
  exact ⟨h0, h1, h2, h3, h4, h5, h6, h7, h8, hb⟩

set_option maxRecDepth 100000 in
set_option maxHeartbeats 2000000 in
theorem made_any (firm : Int) (A : Option Addr) (n ca most : Nat) (w : World) (hm : most ≤ 12) (hR : RawsAt w w.heap.size A n) :
    Calls Try.prog 32 #[.int .i64 firm, .slice A n ca, .int .i64 most] w (MadePost firm most w) := by
  have hfd := field38_0
  have HR := hide hR; clear hR
  go_enter Try.func32, Try.ntmps32
  go_wp2
  go_loopg [7, 8, 9] most (fun gk s tm i wr => ∃ (k m cb : Nat) (ad : Addr) (xs : List Cl) (T : Int), most ≤ k + gk ∧ k ≤ most ∧ m ≤ k ∧ m ≤ cb ∧ s = .slice (some ad) m cb ∧ tm = .int .i64 T ∧ 0 ≤ T ∧ T ≤ 3 * (k : Int) ∧ i = .int .i64 k ∧ w.heap.size ≤ ad.block ∧ SlC wr wr.heap.size (some ad) m xs ∧ Below w.heap.size w wr ∧ MadeP firm (3 * (k : Int)) xs)
  case atStart => exact ⟨0, 0, 0, _, [], 0, by omega, by omega, by omega, by omega, rfl, rfl, by omega, by omega, rfl, Nat.le_refl _, SlC.none_, (Below.refl _ _).alloc (Nat.le_refl _) _, rfl, fun c hc => by cases hc⟩
  case round =>
    obtain ⟨k, m, cb, ad, xs, T, hk1, hk2, hk3, hk4, rfl, rfl, hT1, hT2, rfl, had, hsl, hbl, hmp⟩ := hrel
    have Hsl := hide hsl; clear hsl
    have Hbl := hide hbl; clear hbl
    have Hmp := hide hmp; clear hmp
    have HT := hide (And.intro hT1 hT2); clear hT1 hT2
    by_cases hlt : k < n ∧ k < most
    · obtain ⟨hlt, hlt2⟩ := hlt
      obtain ⟨b, off, rfl, hb, hcells⟩ := HR.out (by omega)
      obtain ⟨x0, x1, x2, x3, ⟨g0, g1, g2, g3⟩, hx⟩ := hcells k hlt
      clear hcells
      rw [← Hbl.out.cell (p := ⟨b, _, none⟩) hb] at g0 g1 g2 g3
      have Hx := hide hx; clear hx
      go_upto_region 9 with (fail)
      obtain ⟨T', hT'⟩ : ∃ x, wrap64 (T + wrap64 (x0.tmod 4)) = x := ⟨_, rfl⟩
      obtain ⟨kd, hkd⟩ : ∃ x, wrap64 (1 + wrap64 (x1.tmod 4)) = x := ⟨_, rfl⟩
      obtain ⟨aa, haa⟩ : ∃ x, wrap64 (x2.tmod 8) = x := ⟨_, rfl⟩
      obtain ⟨ax, hax⟩ : ∃ x, IntKind.u64.wrap (IntKind.u64.wrap x3 * 1152921504606846976) = x := ⟨_, rfl⟩
      obtain ⟨rf, hrf⟩ : ∃ x, IntKind.u64.wrap x3 = x := ⟨_, rfl⟩
      rw [hT', hkd, haa, hax, hrf]
      have Hbd := hide (made_bounds HT.out.1 HT.out.2 hk2 hm Hx.out hT' haa hax hrf)
      clear hT' hkd haa hax hrf g0 g1 g2 g3
      obtain ⟨wq, hwq⟩ : ∃ V, V = wr.alloc (.cells #[.int .u8 x0, .int .u8 x1, .int .u8 x2, .int .u8 x3] 56) := ⟨_, rfl⟩
      have hb1 : Below wr.heap.size wr wq := by rw [hwq]; exact (Below.refl _ _).alloc (Nat.le_refl _) _
      have hz1 : wr.heap.size + 1 = wq.heap.size := by rw [hwq, World.size_alloc]
      rw [← hwq, hz1]
      obtain ⟨w3, hw3⟩ : ∃ V, V = wq.alloc (.cells (#[.int .i64 (⟨firm, 0, T', kd, aa, rf, ax, 0, 0⟩ : Cl).firm, .int .i64 (⟨firm, 0, T', kd, aa, rf, ax, 0, 0⟩ : Cl).seq, .int .i64 (⟨firm, 0, T', kd, aa, rf, ax, 0, 0⟩ : Cl).time, .int .i64 (⟨firm, 0, T', kd, aa, rf, ax, 0, 0⟩ : Cl).kind, .int .i64 (⟨firm, 0, T', kd, aa, rf, ax, 0, 0⟩ : Cl).a, .int .u64 (⟨firm, 0, T', kd, aa, rf, ax, 0, 0⟩ : Cl).ref, .int .u64 (⟨firm, 0, T', kd, aa, rf, ax, 0, 0⟩ : Cl).aux, .int .u64 (⟨firm, 0, T', kd, aa, rf, ax, 0, 0⟩ : Cl).prev, .int .u64 (⟨firm, 0, T', kd, aa, rf, ax, 0, 0⟩ : Cl).tag]) 29) := ⟨_, rfl⟩
      have hb2 : Below wq.heap.size wq w3 := by rw [hw3]; exact (Below.refl _ _).alloc (Nat.le_refl _) _
      have hc3 : IsCl w3 wq.heap.size 0 (⟨firm, 0, T', kd, aa, rf, ax, 0, 0⟩ : Cl) := by rw [hw3]; exact IsCl.block (heap_alloc_new wq _)
      have hz3 : wq.heap.size < w3.heap.size := by rw [hw3]; simp
      dsimp only at hw3
      rw [← hw3]
      obtain ⟨b4, hb4⟩ : ∃ b, wq.heap.size = b := ⟨_, rfl⟩
      rw [hb4] at hc3 hz3 ⊢
      have hb3 : Below wr.heap.size wr w3 := hb1.trans (hb2.mono (by omega))
      have Hb3 := hide hb3
      have Hs3 := hide ((Hsl.out.below hb3).more hb3.size)
      have Hc3 := hide hc3
      clear hw3 hb1 hb2 hc3 hb3 hwq hz1 hb4 wq
      go_region_held3 (fun w' => w'.cell? ⟨b4, 0, none⟩ = some (.int .i64 firm) ∧ w'.cell? ⟨b4, 1, none⟩ = some (.int .i64 0) ∧ w'.cell? ⟨b4, 2, none⟩ = some (.int .i64 T') ∧ w'.cell? ⟨b4, 3, none⟩ = some (.int .i64 kd) ∧ w'.cell? ⟨b4, 4, none⟩ = some (.int .i64 aa) ∧ w'.cell? ⟨b4, 5, none⟩ = some (.int .u64 rf) ∧ w'.cell? ⟨b4, 6, none⟩ = some (.int .u64 ax) ∧ w'.cell? ⟨b4, 7, none⟩ = some (.int .u64 0) ∧ w'.cell? ⟨b4, 8, none⟩ = some (.int .u64 0) ∧ Below w3.heap.size w3 w')
        ((go_split_ands; refine claim_keep ?_ Hc3.out hz3; first | assumption | exact (Below.refl _ _).drew))
        (first
          | (go_at_call 12; refine (key_any firm _).mono ?_; rintro e w4 ⟨rfl, hb4⟩; have hB4 : Below w3.heap.size w3 w4 := Below.trans (Below.refl _ w3).drew hb4)
          | (go_at_call 14; refine (append3_any (some ad) m cb (words [firm, 41]) xs (⟨firm, 0, T', kd, aa, rf, ax, 0, 0⟩ : Cl) _ ((Hs3.out.below hB4).more hB4.size) (by omega) hk4).mono ?_; rintro e w5 ⟨hb5, A5, n5, c5, ys, er, rfl, hr5, hat5⟩; have hB5 : Below w3.heap.size w3 w5 := hB4.trans (hb5.mono hB4.size))
          | fail)
      obtain ⟨hm5, hn5, hc5, ⟨ad5, rfl⟩, hs5⟩ := made_more Hmp.out rfl Hbd.out.1.2 Hbd.out.2.1 Hbd.out.2.2.1 Hbd.out.2.2.2 hr5 hk3 hk4 ⟨_, rfl⟩
      have had5 : w.heap.size ≤ ad5.block := by
        rcases hr5.2 with ⟨_, h0, _⟩ | ⟨_, _, hA, _⟩
        · have h1 := hat5 h0 ad5 rfl
          have h2 := hB4.size
          have h3 := Hb3.out.size
          have h4 := Hbl.out.size
          omega
        · injection hA with hA
          rw [hA]
          exact had
      have Hm5 := hide hm5; clear hm5
      have Hs5 := hide hs5; clear hs5
      have Hbw := hide (Hbl.out.trans ((Hb3.out.trans (hB5.mono Hb3.out.size)).mono Hbl.out.size))
      clear hr5 hat5 hb5
      go_wp2_with fail
      go_roundg (gk - 1)
      case measure => omega
      case rel => exact ⟨k + 1, n5, c5, ad5, ys, T', by omega, by omega, hn5, hc5, rfl, rfl, Hbd.out.1.1, Hbd.out.1.2, by go_num, had5, Hs5.out, Hbw.out, Hm5.out⟩
    · have hout : (k < n ∧ decide (k < most) = false) ∨ n ≤ k := by
        by_cases h : k < n
        · exact .inl ⟨h, decide_eq_false (by omega)⟩
        · exact .inr (by omega)
      have hmp2 : MadeP firm (3 * (most : Int)) xs := ⟨Hmp.out.1, fun c hc => by obtain ⟨e1, e2⟩ := Hmp.out.2 c hc; exact ⟨by omega, e2⟩⟩
      have Hmp2 := hide hmp2; clear hmp2
      clear hlt
      rcases hout with ⟨hkn, hkd⟩ | hkn
      all_goals
        go_wp2
        go_ret
        exact ⟨ad, m, cb, xs, rfl, Hsl.out, hk4, by omega, had, Hbl.out, Hmp2.out⟩
end Go.Proofs.Ythpbjceajnaokaa
