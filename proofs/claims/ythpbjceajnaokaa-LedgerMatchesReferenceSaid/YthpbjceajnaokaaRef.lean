/- The reference's formed and standing. Condition: chains of at most 1000 claims. -/
import Derived.Test.YthpbjceajnaokaaOpn
namespace Go.Proofs.Ythpbjceajnaokaa
open Go.RowKit

theorem okF_iff (c : Cl) : okF c = true ↔ (0 ≤ c.firm ∧ c.firm ≤ 7 ∧ 1 ≤ c.seq ∧ c.seq ≤ 1000 ∧ 0 ≤ c.time ∧ c.time ≤ 1099511627776 ∧ 1 ≤ c.kind ∧ c.kind ≤ 4 ∧ 0 ≤ c.a ∧ c.a ≤ 1073741824) := by
  simp only [okF, outB, Bool.and_eq_true, Bool.not_eq_true', decide_eq_false_iff_not]
  constructor
  · intro h
    obtain ⟨⟨⟨⟨h1, h2⟩, h3⟩, h4⟩, h5⟩ := h
    omega
  · intro h
    refine ⟨⟨⟨⟨?_, ?_⟩, ?_⟩, ?_⟩, ?_⟩ <;> omega
theorem okF_not {c : Cl} (h : ¬ (0 ≤ c.firm ∧ c.firm ≤ 7 ∧ 1 ≤ c.seq ∧ c.seq ≤ 1000 ∧ 0 ≤ c.time ∧ c.time ≤ 1099511627776 ∧ 1 ≤ c.kind ∧ c.kind ≤ 4 ∧ 0 ≤ c.a ∧ c.a ≤ 1073741824)) : okF c = false := by
  rw [Bool.eq_false_iff]
  exact fun e => h ((okF_iff c).1 e)
theorem most_any (w : World) : Calls Try.prog 37 #[] w fun e w' => e = .returned (.int .i64 1000) ∧ Below w.heap.size w w' := by
  go_enter Try.func37, Try.ntmps37
  go_wp2
  go_ret
  exact ⟨rfl, Below.refl _ _⟩

set_option maxRecDepth 100000 in
set_option maxHeartbeats 4000000 in
theorem formed3_any (c : Cl) (w : World) : Calls Try.prog 42 #[.agg #[.int .i64 c.firm, .int .i64 c.seq, .int .i64 c.time, .int .i64 c.kind, .int .i64 c.a, .int .u64 c.ref, .int .u64 c.aux, .int .u64 c.prev, .int .u64 c.tag]] w fun e w' => e = .returned (.bool (okF c)) ∧ Below w.heap.size w w' := by
  go_enter Try.func42, Try.ntmps42
  go_upto_region 1 with (fail)
  have hb1 : Below w.heap.size w (w.alloc (.cells (#[.int .i64 c.firm, .int .i64 c.seq, .int .i64 c.time, .int .i64 c.kind, .int .i64 c.a, .int .u64 c.ref, .int .u64 c.aux, .int .u64 c.prev, .int .u64 c.tag]) 29)) := (Below.refl _ w).alloc (Nat.le_refl _) _
  obtain ⟨g0, g1, g2, g3, g4, g5, g6, g7, g8⟩ := (IsCl.block (heap_alloc_new w (.cells (#[.int .i64 c.firm, .int .i64 c.seq, .int .i64 c.time, .int .i64 c.kind, .int .i64 c.a, .int .u64 c.ref, .int .u64 c.aux, .int .u64 c.prev, .int .u64 c.tag]) 29))).at0
  obtain ⟨w1, hw1⟩ : ∃ V, V = w.alloc (.cells (#[.int .i64 c.firm, .int .i64 c.seq, .int .i64 c.time, .int .i64 c.kind, .int .i64 c.a, .int .u64 c.ref, .int .u64 c.aux, .int .u64 c.prev, .int .u64 c.tag]) 29) := ⟨_, rfl⟩
  rw [← hw1] at hb1 g0 g1 g2 g3 g4 g5 g6 g7 g8 ⊢
  have Hb1 := hide hb1; clear hb1 hw1
  have G0 := Wd.cell g0
  have G1 := Wd.cell g1
  have G2 := Wd.cell g2
  have G3 := Wd.cell g3
  have G4 := Wd.cell g4
  clear g0 g1 g2 g3 g4 g5 g6 g7 g8
  by_cases h0 : 0 ≤ c.firm
  · by_cases h1 : c.firm ≤ 7
    · by_cases h2 : 1 ≤ c.seq
      · by_cases h3 : c.seq ≤ 1000
        · by_cases h4 : 0 ≤ c.time
          · by_cases h5 : c.time ≤ 1099511627776
            · by_cases h6 : 1 ≤ c.kind
              · by_cases h7 : c.kind ≤ 4
                · by_cases h8 : 0 ≤ c.a
                  · by_cases h9 : c.a ≤ 1073741824
                    · have hok := hide (show okF c = true from (okF_iff c).2 ⟨h0, h1, h2, h3, h4, h5, h6, h7, h8, h9⟩)
                      refine wp_region_grew (by kernel_rfl) (by kernel_rfl) ?_
                      iterate 50 (go_big_quiet_step ((go_at_call 37; exact grew_of (most_any _))))
                      refine wpQuiet_nil ?_
                      intro w5 hw5
                      obtain ⟨⟨w5, hb5⟩, rfl⟩ := hw5
                      have Hb5 := hide hb5; clear hb5 G0 G1 G2 G3 G4
                      go_wp2
                      go_ret
                      exact ⟨by rw [hok.out]; rfl, Hb1.out.trans (Hb5.out.mono Hb1.out.size)⟩
                    · have hok := hide (show okF c = false from okF_not (by omega))
                      refine wp_region_grew (by kernel_rfl) (by kernel_rfl) ?_
                      iterate 50 (go_big_quiet_step ((go_at_call 37; exact grew_of (most_any _))))
                      refine wpQuiet_nil ?_
                      intro w5 hw5
                      obtain ⟨⟨w5, hb5⟩, rfl⟩ := hw5
                      have Hb5 := hide hb5; clear hb5 G0 G1 G2 G3 G4
                      go_wp2
                      go_ret
                      exact ⟨by rw [hok.out]; rfl, Hb1.out.trans (Hb5.out.mono Hb1.out.size)⟩
                  · have hok := hide (show okF c = false from okF_not (by omega))
                    refine wp_region_grew (by kernel_rfl) (by kernel_rfl) ?_
                    iterate 50 (go_big_quiet_step ((go_at_call 37; exact grew_of (most_any _))))
                    refine wpQuiet_nil ?_
                    intro w5 hw5
                    obtain ⟨⟨w5, hb5⟩, rfl⟩ := hw5
                    have Hb5 := hide hb5; clear hb5 G0 G1 G2 G3 G4
                    go_wp2
                    go_ret
                    exact ⟨by rw [hok.out]; rfl, Hb1.out.trans (Hb5.out.mono Hb1.out.size)⟩
                · have hok := hide (show okF c = false from okF_not (by omega))
                  refine wp_region_grew (by kernel_rfl) (by kernel_rfl) ?_
                  iterate 50 (go_big_quiet_step ((go_at_call 37; exact grew_of (most_any _))))
                  refine wpQuiet_nil ?_
                  intro w5 hw5
                  obtain ⟨⟨w5, hb5⟩, rfl⟩ := hw5
                  have Hb5 := hide hb5; clear hb5 G0 G1 G2 G3 G4
                  go_wp2
                  go_ret
                  exact ⟨by rw [hok.out]; rfl, Hb1.out.trans (Hb5.out.mono Hb1.out.size)⟩
              · have hok := hide (show okF c = false from okF_not (by omega))
                refine wp_region_grew (by kernel_rfl) (by kernel_rfl) ?_
                iterate 50 (go_big_quiet_step ((go_at_call 37; exact grew_of (most_any _))))
                refine wpQuiet_nil ?_
                intro w5 hw5
                obtain ⟨⟨w5, hb5⟩, rfl⟩ := hw5
                have Hb5 := hide hb5; clear hb5 G0 G1 G2 G3 G4
                go_wp2
                go_ret
                exact ⟨by rw [hok.out]; rfl, Hb1.out.trans (Hb5.out.mono Hb1.out.size)⟩
            · have hok := hide (show okF c = false from okF_not (by omega))
              refine wp_region_grew (by kernel_rfl) (by kernel_rfl) ?_
              iterate 50 (go_big_quiet_step ((go_at_call 37; exact grew_of (most_any _))))
              refine wpQuiet_nil ?_
              intro w5 hw5
              obtain ⟨⟨w5, hb5⟩, rfl⟩ := hw5
              have Hb5 := hide hb5; clear hb5 G0 G1 G2 G3 G4
              go_wp2
              go_ret
              exact ⟨by rw [hok.out]; rfl, Hb1.out.trans (Hb5.out.mono Hb1.out.size)⟩
          · have hok := hide (show okF c = false from okF_not (by omega))
            refine wp_region_grew (by kernel_rfl) (by kernel_rfl) ?_
            iterate 50 (go_big_quiet_step ((go_at_call 37; exact grew_of (most_any _))))
            refine wpQuiet_nil ?_
            intro w5 hw5
            obtain ⟨⟨w5, hb5⟩, rfl⟩ := hw5
            have Hb5 := hide hb5; clear hb5 G0 G1 G2 G3 G4
            go_wp2
            go_ret
            exact ⟨by rw [hok.out]; rfl, Hb1.out.trans (Hb5.out.mono Hb1.out.size)⟩
        · have hok := hide (show okF c = false from okF_not (by omega))
          refine wp_region_grew (by kernel_rfl) (by kernel_rfl) ?_
          iterate 50 (go_big_quiet_step ((go_at_call 37; exact grew_of (most_any _))))
          refine wpQuiet_nil ?_
          intro w5 hw5
          obtain ⟨⟨w5, hb5⟩, rfl⟩ := hw5
          have Hb5 := hide hb5; clear hb5 G0 G1 G2 G3 G4
          go_wp2
          go_ret
          exact ⟨by rw [hok.out]; rfl, Hb1.out.trans (Hb5.out.mono Hb1.out.size)⟩
      · have hok := hide (show okF c = false from okF_not (by omega))
        refine wp_region_grew (by kernel_rfl) (by kernel_rfl) ?_
        iterate 50 (go_big_quiet_step ((go_at_call 37; exact grew_of (most_any _))))
        refine wpQuiet_nil ?_
        intro w5 hw5
        obtain ⟨⟨w5, hb5⟩, rfl⟩ := hw5
        have Hb5 := hide hb5; clear hb5 G0 G1 G2 G3 G4
        go_wp2
        go_ret
        exact ⟨by rw [hok.out]; rfl, Hb1.out.trans (Hb5.out.mono Hb1.out.size)⟩
    · have hok := hide (show okF c = false from okF_not (by omega))
      refine wp_region_grew (by kernel_rfl) (by kernel_rfl) ?_
      iterate 50 (go_big_quiet_step ((go_at_call 37; exact grew_of (most_any _))))
      refine wpQuiet_nil ?_
      intro w5 hw5
      obtain ⟨⟨w5, hb5⟩, rfl⟩ := hw5
      have Hb5 := hide hb5; clear hb5 G0 G1 G2 G3 G4
      go_wp2
      go_ret
      exact ⟨by rw [hok.out]; rfl, Hb1.out.trans (Hb5.out.mono Hb1.out.size)⟩
  · have hok := hide (show okF c = false from okF_not (by omega))
    refine wp_region_grew (by kernel_rfl) (by kernel_rfl) ?_
    iterate 50 (go_big_quiet_step ((go_at_call 37; exact grew_of (most_any _))))
    refine wpQuiet_nil ?_
    intro w5 hw5
    obtain ⟨⟨w5, hb5⟩, rfl⟩ := hw5
    have Hb5 := hide hb5; clear hb5 G0 G1 G2 G3 G4
    go_wp2
    go_ret
    exact ⟨by rw [hok.out]; rfl, Hb1.out.trans (Hb5.out.mono Hb1.out.size)⟩

/-- Whether the claim with a number is standing, as the reference reckons it. -/
def cancels (s : Int) (d : Cl) : Bool := d.kind == 4 && d.a == s
def standR (p : List Cl) (s : Int) : Bool := decide (1 ≤ s) && decide (s ≤ (p.length : Int)) && !((p[(s - 1).toNat]?.getD zeroC).kind == 4) && !((p.drop s.toNat).any (cancels s))
theorem standR_low {p : List Cl} {s : Int} (h : s < 1) : standR p s = false := by
  have : decide (1 ≤ s) = false := by simp; omega
  simp only [standR, this, Bool.false_and]
theorem standR_high {p : List Cl} {s : Int} (h : (p.length : Int) < s) : standR p s = false := by
  have : decide (s ≤ (p.length : Int)) = false := by simp; omega
  simp only [standR, this, Bool.and_false, Bool.false_and]
theorem idx_is (k : Nat) : ((k : Int) + 1 - 1).toNat = k := by omega
theorem idx_is' (k : Nat) : ((k : Int) + 1).toNat = k + 1 := by omega
theorem standR_cancel {p : List Cl} {k : Nat} {d : Cl} (h : p[k]? = some d) (hk : d.kind = 4) : standR p ((k : Int) + 1) = false := by
  have : (d.kind == 4) = true := by simpa using hk
  simp only [standR, idx_is, h, Option.getD_some, this, Bool.not_true, Bool.and_false, Bool.false_and]
theorem standR_hit {p : List Cl} {k q : Nat} {d : Cl} (h : p[q]? = some d) (hq : k < q) (hk : d.kind = 4) (ha : d.a = (k : Int) + 1) : standR p ((k : Int) + 1) = false := by
  have : (p.drop (k + 1)).any (cancels ((k : Int) + 1)) = true := by
    rw [List.any_eq_true]
    refine ⟨d, List.mem_of_getElem? (i := q - (k + 1)) ?_, by simp [cancels, hk, ha]⟩
    rw [List.getElem?_drop, show k + 1 + (q - (k + 1)) = q by omega]
    exact h
  simp only [standR, idx_is', this, Bool.not_true, Bool.and_false]
theorem standR_true {p : List Cl} {k : Nat} {d : Cl} (h : p[k]? = some d) (hk : ¬ d.kind = 4) (ha : ∀ (q : Nat) (x : Cl), k < q → p[q]? = some x → cancels ((k : Int) + 1) x = false) : standR p ((k : Int) + 1) = true := by
  have hl := (List.getElem?_eq_some_iff.1 h).1
  have h1 : decide (1 ≤ (k : Int) + 1) = true := by simp; omega
  have h2 : decide ((k : Int) + 1 ≤ (p.length : Int)) = true := by simp; omega
  have h3 : (d.kind == 4) = false := by simpa using hk
  have h4 : (p.drop (k + 1)).any (cancels ((k : Int) + 1)) = false := by
    rw [List.any_eq_false]
    intro x hx
    obtain ⟨i, hi⟩ := List.getElem?_of_mem hx
    rw [List.getElem?_drop] at hi
    simp [ha _ x (by omega) hi]
  simp only [standR, idx_is, idx_is', h1, h2, h, Option.getD_some, h3, h4, Bool.not_false, Bool.and_self]

set_option maxHeartbeats 1000000 in
theorem standing_any (A : Option Addr) (n ca : Nat) (s : Int) (xs : List Cl) (w : World) (ha : SlC w w.heap.size A n xs) (hn : n ≤ 1000) :
    Calls Try.prog 43 #[.slice A n ca, .int .i64 s] w fun e w' => e = .returned (.bool (standR xs s)) ∧ Below w.heap.size w w' := by
  have Ha := hide ha; clear ha
  by_cases h1 : s < 1
  · have Hf := hide (standR_low (p := xs) h1)
    go_enter Try.func43, Try.ntmps43
    go_wp2
    go_ret
    exact ⟨by rw [Hf.out]; rfl, Below.refl _ _⟩
  by_cases h2 : (n : Int) < s
  · have Hf := hide (standR_high (p := xs) (s := s) (by rw [Ha.out.1]; exact h2))
    go_enter Try.func43, Try.ntmps43
    go_wp2
    go_ret
    exact ⟨by rw [Hf.out]; rfl, Below.refl _ _⟩
  obtain ⟨k, rfl⟩ : ∃ k : Nat, s = (k : Int) + 1 := ⟨(s - 1).toNat, by omega⟩
  have hkn : k < n := by omega
  clear h1 h2
  obtain ⟨b, off, d, rfl, hb, hx, hc⟩ := Ha.out.at_ hkn
  have Hx := hide hx; clear hx
  obtain ⟨g0, g1, g2, g3, g4, g5, g6, g7, g8⟩ := hc
  clear g0 g1 g2 g4 g5 g6 g7 g8
  have hd1 : decide ((k : Int) + 1 < 1) = false := decide_eq_false (by omega)
  have hd2 : decide ((n : Int) < (k : Int) + 1) = false := decide_eq_false (by omega)
  by_cases h4 : d.kind = 4
  · have Hf := hide (standR_cancel Hx.out h4)
    go_enter Try.func43, Try.ntmps43
    go_wp2
    go_ret
    exact ⟨by rw [Hf.out]; rfl, Below.refl _ _⟩
  have h4b : (d.kind == 4) = false := by simpa using h4
  have H4 := hide h4; clear h4
  go_enter Try.func43, Try.ntmps43
  go_wp2
  go_loopg [5] n (fun gk i wr => ∃ j : Nat, k < j ∧ j ≤ n ∧ n ≤ j + gk ∧ i = .int .i64 j ∧ wr = w ∧ ∀ (q : Nat) (x : Cl), k < q → q < j → xs[q]? = some x → cancels ((k : Int) + 1) x = false)
  case atStart => exact ⟨k + 1, by omega, by omega, by omega, by go_num, rfl, fun q x h1 h2 => by omega⟩
  case round =>
    obtain ⟨j, hj1, hj2, hj3, rfl, rfl, hno⟩ := hrel
    have Hno := hide hno; clear hno
    by_cases hlt : j < n
    · obtain ⟨b', off', d', e', hb', hx', hc'⟩ := Ha.out.at_ hlt
      injection e' with e'
      injection e' with e1 e2
      subst e1
      subst e2
      have Hx' := hide hx'; clear hx'
      obtain ⟨p0, p1, p2, p3, p4, p5, p6, p7, p8⟩ := hc'
      clear p0 p1 p2 p5 p6 p7 p8
      by_cases hk4 : d'.kind = 4
      · by_cases hka : d'.a = (k : Int) + 1
        · have Hf := hide (standR_hit Hx'.out hj1 hk4 hka)
          go_wp2
          go_ret
          exact ⟨by rw [Hf.out]; rfl, Below.refl _ _⟩
        · go_wp2
          go_roundg (gk - 1)
          case measure => omega
          case rel =>
            refine ⟨j + 1, by omega, by omega, by omega, by go_num, rfl, fun q x h1 h2 h3 => ?_⟩
            by_cases hq : q = j
            · subst hq
              rw [Hx'.out] at h3
              injection h3 with h3
              subst h3
              simp [cancels, hka]
            · exact Hno.out q x h1 (by omega) h3
      · go_wp2
        go_roundg (gk - 1)
        case measure => omega
        case rel =>
          refine ⟨j + 1, by omega, by omega, by omega, by go_num, rfl, fun q x h1 h2 h3 => ?_⟩
          by_cases hq : q = j
          · subst hq
            rw [Hx'.out] at h3
            injection h3 with h3
            subst h3
            simp [cancels, hk4]
          · exact Hno.out q x h1 (by omega) h3
    · have Hf := hide (standR_true Hx.out H4.out (fun q x h1 h2 => Hno.out q x h1 (by have := (List.getElem?_eq_some_iff.1 h2).1; have := Ha.out.1; omega) h2))
      go_wp2
      go_ret
      exact ⟨by rw [Hf.out]; rfl, Below.refl _ _⟩
end Go.Proofs.Ythpbjceajnaokaa
