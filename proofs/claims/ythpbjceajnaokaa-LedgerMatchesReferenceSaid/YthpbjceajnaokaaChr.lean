/- The reference's Check reckons what Check reckons. Condition: chains of at most 1000 claims. -/
import Derived.Test.YthpbjceajnaokaaRef
namespace Go.Proofs.Ythpbjceajnaokaa
open Go.RowKit

theorem standR_iff (p : List Cl) (s : Int) : standR p s = true ↔ ∃ (k : Nat) (d : Cl), s = (k : Int) + 1 ∧ p[k]? = some d ∧ ¬ d.kind = 4 ∧ ∀ (q : Nat) (x : Cl), k < q → p[q]? = some x → cancels s x = false := by
  constructor
  · intro h
    by_cases h1 : s < 1
    · rw [standR_low h1] at h; cases h
    by_cases h2 : (p.length : Int) < s
    · rw [standR_high h2] at h; cases h
    obtain ⟨k, rfl⟩ : ∃ k : Nat, s = (k : Int) + 1 := ⟨(s - 1).toNat, by omega⟩
    have hl : k < p.length := by omega
    refine ⟨k, p[k], rfl, List.getElem?_eq_getElem hl, fun hk => ?_, fun q x hq hx => ?_⟩
    · rw [standR_cancel (List.getElem?_eq_getElem hl) hk] at h; cases h
    · rw [Bool.eq_false_iff]
      intro hc
      simp only [cancels, Bool.and_eq_true, beq_iff_eq] at hc
      rw [standR_hit hx hq hc.1 hc.2] at h; cases h
  · rintro ⟨k, d, rfl, h1, h2, h3⟩
    exact standR_true h1 h2 h3
theorem snoc_at (p : List Cl) (c : Cl) (q : Nat) (x : Cl) : (p ++ [c])[q]? = some x ↔ (p[q]? = some x ∨ (q = p.length ∧ x = c)) := by
  by_cases h : q < p.length
  · rw [List.getElem?_append_left h]
    exact ⟨.inl, fun e => e.elim id (fun e => by omega)⟩
  · rw [List.getElem?_append_right (by omega)]
    by_cases h2 : q = p.length
    · subst h2
      simp only [Nat.sub_self, List.getElem?_cons_zero, Option.some.injEq, true_and]
      constructor
      · intro e; exact .inr e.symm
      · rintro (e | e)
        · rw [List.getElem?_eq_none (Nat.le_refl _)] at e; cases e
        · exact e.symm
    · rw [List.getElem?_eq_none (by simp; omega)]
      constructor
      · intro e; cases e
      · rintro (e | ⟨e, _⟩)
        · rw [List.getElem?_eq_none (by omega)] at e; cases e
        · exact absurd e h2
theorem stand_snoc_is (p : List Cl) (c : Cl) (s : Int) (hs : c.seq = (p.length : Int) + 1) (ih : stand p s = standR p s) : stand (p ++ [c]) s = standR (p ++ [c]) s := by
  have hst : stand (p ++ [c]) s = true ↔ (c.kind = 4 ∧ ¬ s = c.a ∧ standR p s = true) ∨ (¬ c.kind = 4 ∧ (s = c.seq ∨ standR p s = true)) := by
    rw [stand_snoc, standStep]
    by_cases hk : c.kind = 4
    · rw [if_pos hk]
      by_cases ha : s = c.a
      · simp [ha, hk]
      · simp [ha, hk, ih]
    · rw [if_neg hk]
      by_cases ha : s = c.seq
      · simp [ha, hk]
      · simp [ha, hk, ih]
  rw [Bool.eq_iff_iff, hst, standR_iff (p ++ [c]) s]
  constructor
  · rintro (⟨hk, ha, h⟩ | ⟨hk, h⟩)
    · obtain ⟨k, d, rfl, h1, h2, h3⟩ := (standR_iff p s).1 h
      refine ⟨k, d, rfl, (snoc_at ..).2 (.inl h1), h2, fun q x hq hx => ?_⟩
      rcases (snoc_at ..).1 hx with hx | ⟨_, rfl⟩
      · exact h3 q x hq hx
      · simp only [cancels, Bool.and_eq_false_iff, beq_eq_false_iff_ne]
        exact .inr (fun e => ha e.symm)
    · rcases h with rfl | h
      · refine ⟨p.length, c, hs, (snoc_at ..).2 (.inr ⟨rfl, rfl⟩), hk, fun q x hq hx => ?_⟩
        rcases (snoc_at ..).1 hx with hx | ⟨e, _⟩
        · have := (List.getElem?_eq_some_iff.1 hx).1; omega
        · omega
      · obtain ⟨k, d, rfl, h1, h2, h3⟩ := (standR_iff p s).1 h
        refine ⟨k, d, rfl, (snoc_at ..).2 (.inl h1), h2, fun q x hq hx => ?_⟩
        rcases (snoc_at ..).1 hx with hx | ⟨_, rfl⟩
        · exact h3 q x hq hx
        · simp only [cancels, Bool.and_eq_false_iff, beq_eq_false_iff_ne]
          exact .inl hk
  · rintro ⟨k, d, rfl, h1, h2, h3⟩
    rcases (snoc_at ..).1 h1 with h1 | ⟨rfl, rfl⟩
    · have hkl := (List.getElem?_eq_some_iff.1 h1).1
      have hp : standR p ((k : Int) + 1) = true := (standR_iff p _).2 ⟨k, d, rfl, h1, h2, fun q x hq hx => h3 q x hq ((snoc_at ..).2 (.inl hx))⟩
      have hc := h3 p.length c hkl ((snoc_at ..).2 (.inr ⟨rfl, rfl⟩))
      by_cases hk : c.kind = 4
      · refine .inl ⟨hk, fun e => ?_, hp⟩
        simp only [cancels, hk, e, beq_self_eq_true, Bool.and_self] at hc
        cases hc
      · exact .inr ⟨hk, .inr hp⟩
    · exact .inr ⟨h2, .inl hs.symm⟩
theorem stand_is (p : List Cl) (h : ∀ (j : Nat) (c : Cl), p[j]? = some c → c.seq = (j : Int) + 1) (s : Int) : stand p s = standR p s := by
  have hk : ∀ k, k ≤ p.length → stand (p.take k) s = standR (p.take k) s := by
    intro k
    induction k with
    | zero =>
      intro _
      rw [List.take_zero]
      by_cases h1 : s < 1
      · rw [standR_low h1]; rfl
      · rw [standR_high (by simp; omega)]; rfl
    | succ k ih =>
      intro hk
      have hx := List.getElem?_eq_getElem (l := p) (i := k) (by omega)
      rw [take_snoc hx]
      refine stand_snoc_is _ _ _ ?_ (ih (by omega))
      rw [h k _ hx, List.length_take, Nat.min_eq_left (by omega)]
  have := hk p.length (Nat.le_refl _)
  rwa [List.take_length] at this
theorem okAt_parts {key firm : Int} {p : List Cl} {c : Cl} (h : okAt key firm p c = true) : okF c = true ∧ c.firm = firm ∧ c.seq = (p.length : Int) + 1 ∧ ¬ c.time < (lastC p).time ∧ c.prev = prevD p ∧ c.tag = tagC key c ∧ (c.kind = 4 → stand p c.a = true) := by
  simp only [okAt, Bool.and_eq_true, beq_iff_eq, Bool.not_eq_true', decide_eq_false_iff_not, Bool.or_eq_true, bne_iff_ne, ne_eq] at h
  obtain ⟨⟨⟨⟨⟨⟨h0, h1⟩, h2⟩, h3⟩, h4⟩, h5⟩, h6⟩ := h
  exact ⟨h0, h1, h2, h3, h4, h5, fun hk => h6.elim (fun e => absurd hk e) id⟩
theorem stand_of_ok {key firm : Int} {xs : List Cl} {k : Nat} (hk : k ≤ xs.length) (h : ∀ j, j < k → okAt key firm (xs.take j) (xs[j]?.getD zeroC) = true) (s : Int) : stand (xs.take k) s = standR (xs.take k) s := by
  refine stand_is _ (fun j c hc => ?_) s
  have hj : j < k := by have := (List.getElem?_eq_some_iff.1 hc).1; rw [List.length_take] at this; omega
  rw [List.getElem?_take_of_lt hj] at hc
  have h3 := (okAt_parts (h j hj)).2.2.1
  rw [hc, List.length_take, Nat.min_eq_left (by omega)] at h3
  exact h3

set_option maxRecDepth 100000 in
set_option maxHeartbeats 4000000 in
theorem check3_any (A : Option Addr) (n ca : Nat) (key firm : Int) (xs : List Cl) (w : World) (ha : SlC w w.heap.size A n xs) (hn : n ≤ 1000) (hca : n ≤ ca) :
    Calls Try.prog 21 #[.slice A n ca, .int .u64 key, .int .i64 firm] w (ChkPost (chkF key firm xs) w) := by
  have Ha := hide ha; clear ha
  go_enter Try.func21, Try.ntmps21
  go_wp2_with fail
  refine (most_any _).mono ?_
  rintro e w1 ⟨rfl, hb1⟩
  have hz1 := hb1.size
  have Hb1 := hide hb1; clear hb1
  go_wp2
  go_loopg [7, 8] n (fun gk pv i wr => ∃ k : Nat, k + gk = n ∧ i = .int .i64 k ∧ pv = .int .u64 (prevD (xs.take k)) ∧ (∀ j, j < k → okAt key firm (xs.take j) (xs[j]?.getD zeroC) = true) ∧ Below w.heap.size w wr)
  case atStart => exact ⟨0, by omega, rfl, rfl, (fun j hj => absurd hj (by omega)), Hb1.out⟩
  case round =>
    obtain ⟨k, hk, rfl, rfl, hok, hbl⟩ := hrel
    have Hk := hide hk; clear hk
    have Hok := hide hok; clear hok
    have Hbl := hide hbl; clear hbl
    clear Hb1 hz1
    by_cases hlt : k < n
    · obtain ⟨b, off, c, rfl, hb, hx, hc⟩ := Ha.out.at_ hlt
      have Hx := hide hx; clear hx
      obtain ⟨g0, g1, g2, g3, g4, g5, g6, g7, g8⟩ := hc.keep (w' := wr) (fun o => Hbl.out.cell (p := ⟨b, o, none⟩) hb)
      clear hc
      have hpl : (xs.take k).length = k := by have := Ha.out.1; rw [List.length_take]; omega
      have Hpl := hide hpl; clear hpl
      go_upto_region 8 with (fail)
      clear g0 g1 g2 g3 g4 g5 g6 g7 g8
      obtain ⟨g0, g1, g2, g3, g4, g5, g6, g7, g8⟩ := (IsCl.block (heap_alloc_new wr (.cells (#[.int .i64 c.firm, .int .i64 c.seq, .int .i64 c.time, .int .i64 c.kind, .int .i64 c.a, .int .u64 c.ref, .int .u64 c.aux, .int .u64 c.prev, .int .u64 c.tag]) 29))).at0
      have hwa : Below wr.heap.size wr (wr.alloc (.cells (#[.int .i64 c.firm, .int .i64 c.seq, .int .i64 c.time, .int .i64 c.kind, .int .i64 c.a, .int .u64 c.ref, .int .u64 c.aux, .int .u64 c.prev, .int .u64 c.tag]) 29)) := (Below.refl _ _).alloc (Nat.le_refl _) _
      obtain ⟨wa, hwa2⟩ : ∃ V, V = wr.alloc (.cells (#[.int .i64 c.firm, .int .i64 c.seq, .int .i64 c.time, .int .i64 c.kind, .int .i64 c.a, .int .u64 c.ref, .int .u64 c.aux, .int .u64 c.prev, .int .u64 c.tag]) 29) := ⟨_, rfl⟩
      rw [← hwa2] at hwa g0 g1 g2 g3 g4 g5 g6 g7 g8 ⊢
      have G0 := Wd.cell g0; have G1 := Wd.cell g1; have G2 := Wd.cell g2; have G3 := Wd.cell g3; have G4 := Wd.cell g4; have G5 := Wd.cell g5; have G6 := Wd.cell g6; have G7 := Wd.cell g7; have G8 := Wd.cell g8
      have hsa : SlC wa wa.heap.size (some ⟨b, off, none⟩) n xs := (((Ha.out.below Hbl.out).more Hbl.out.size).below hwa).more hwa.size
      have Hbl2 := hide (Hbl.out.trans (hwa.mono Hbl.out.size))
      have Hsa := hide hsa
      have Kf := fun p : Wd wa => hide (formed3_any c p.w')
      have Kt := fun p : Wd wa => hide (tag3_any key c p.w')
      have Ks := fun p : Wd wa => hide (standing_any (some ⟨b, off, none⟩) k ca c.a (xs.take k) p.w' (((Hsa.out.below p.h).more p.h.size).take (Nat.le_of_lt hlt)) (by omega))
      have hst := stand_of_ok (k := k) (by rw [Ha.out.1]; omega) Hok.out c.a
      rw [← hst] at Ks
      have hkca : k ≤ ca := by omega
      clear hst hwa2 hwa hsa g1 g2 g3 g4 g5 g6 g7 g8
      clear g0
      obtain ⟨pD, hpD⟩ : ∃ x, prevD (xs.take k) = x := ⟨_, rfl⟩
      obtain ⟨T, hT⟩ : ∃ x, (lastC (xs.take k)).time = x := ⟨_, rfl⟩
      rw [hpD]
      have HpD := hide hpD; clear hpD
      have HT := hide hT; clear hT
      cases hz0 : okF c
      · have Hbad := hide (chk_bad (firm := firm) (key := key) Hx.out (okAt_0 hz0))
        refine wp_region_grew (by kernel_rfl) (by kernel_rfl) ?_
        iterate 59 (go_big_quiet_step (first | (go_at_call 42; exact grew_of (Kf _).out) | (go_at_call 19; exact grew_of (Kt _).out) | (go_at_call 43; exact grew_of (Ks _).out)))
        refine wpQuiet_nil ?_
        intro w5 hw5
        obtain ⟨⟨w5, hb5⟩, rfl⟩ := hw5
        clear G0 G1 G2 G3 G4 G5 G6 G7 G8 Kf Kt Ks Hsa
        have Hb5 := hide hb5; clear hb5
        go_wp2
        go_ret
        exact ⟨by rw [Hbad.out]; rfl, Hbl2.out.trans (Hb5.out.mono Hbl2.out.size)⟩
      · rcases Bool.eq_false_or_eq_true (c.firm != firm) with hz1 | hz1
        · have Hbad := hide (chk_bad (firm := firm) (key := key) Hx.out (okAt_1 hz1))
          refine wp_region_grew (by kernel_rfl) (by kernel_rfl) ?_
          iterate 59 (go_big_quiet_step (first | (go_at_call 42; exact grew_of (Kf _).out) | (go_at_call 19; exact grew_of (Kt _).out) | (go_at_call 43; exact grew_of (Ks _).out)))
          refine wpQuiet_nil ?_
          intro w5 hw5
          obtain ⟨⟨w5, hb5⟩, rfl⟩ := hw5
          clear G0 G1 G2 G3 G4 G5 G6 G7 G8 Kf Kt Ks Hsa
          have Hb5 := hide hb5; clear hb5
          go_wp2
          go_ret
          exact ⟨by rw [Hbad.out]; rfl, Hbl2.out.trans (Hb5.out.mono Hbl2.out.size)⟩
        · rcases Bool.eq_false_or_eq_true (c.seq != (k : Int) + 1) with hz2 | hz2
          · have Hbad := hide (chk_bad (firm := firm) (key := key) Hx.out (okAt_2 Hpl.out hz2))
            refine wp_region_grew (by kernel_rfl) (by kernel_rfl) ?_
            iterate 59 (go_big_quiet_step (first | (go_at_call 42; exact grew_of (Kf _).out) | (go_at_call 19; exact grew_of (Kt _).out) | (go_at_call 43; exact grew_of (Ks _).out)))
            refine wpQuiet_nil ?_
            intro w5 hw5
            obtain ⟨⟨w5, hb5⟩, rfl⟩ := hw5
            clear G0 G1 G2 G3 G4 G5 G6 G7 G8 Kf Kt Ks Hsa
            have Hb5 := hide hb5; clear hb5
            go_wp2
            go_ret
            exact ⟨by rw [Hbad.out]; rfl, Hbl2.out.trans (Hb5.out.mono Hbl2.out.size)⟩
          · by_cases hk0 : k = 0
            · subst hk0
              have hz2b : (c.seq != 1) = false := hz2
              have hz3 : decide (c.time < T) = false := decide_eq_false (by have := ((okF_iff c).1 hz0).2.2.2.2.1; rw [← HT.out, List.take_zero]; show ¬ c.time < 0; omega)
              rcases Bool.eq_false_or_eq_true (c.prev != pD) with hz4 | hz4
              · have Hbad := hide (chk_bad (firm := firm) (key := key) Hx.out (okAt_4 (by rw [HpD.out]; exact hz4)))
                refine wp_region_grew (by kernel_rfl) (by kernel_rfl) ?_
                iterate 59 (go_big_quiet_step (first | (go_at_call 42; exact grew_of (Kf _).out) | (go_at_call 19; exact grew_of (Kt _).out) | (go_at_call 43; exact grew_of (Ks _).out)))
                refine wpQuiet_nil ?_
                intro w5 hw5
                obtain ⟨⟨w5, hb5⟩, rfl⟩ := hw5
                clear G0 G1 G2 G3 G4 G5 G6 G7 G8 Kf Kt Ks Hsa
                have Hb5 := hide hb5; clear hb5
                go_wp2
                go_ret
                exact ⟨by rw [Hbad.out]; rfl, Hbl2.out.trans (Hb5.out.mono Hbl2.out.size)⟩
              · rcases Bool.eq_false_or_eq_true (c.tag != tagC key c) with hz5 | hz5
                · have Hbad := hide (chk_bad (firm := firm) (key := key) Hx.out (okAt_5 hz5))
                  refine wp_region_grew (by kernel_rfl) (by kernel_rfl) ?_
                  iterate 59 (go_big_quiet_step (first | (go_at_call 42; exact grew_of (Kf _).out) | (go_at_call 19; exact grew_of (Kt _).out) | (go_at_call 43; exact grew_of (Ks _).out)))
                  refine wpQuiet_nil ?_
                  intro w5 hw5
                  obtain ⟨⟨w5, hb5⟩, rfl⟩ := hw5
                  clear G0 G1 G2 G3 G4 G5 G6 G7 G8 Kf Kt Ks Hsa
                  have Hb5 := hide hb5; clear hb5
                  go_wp2
                  go_ret
                  exact ⟨by rw [Hbad.out]; rfl, Hbl2.out.trans (Hb5.out.mono Hbl2.out.size)⟩
                · rcases Bool.eq_false_or_eq_true (c.kind == 4) with hkd | hkd
                  · have hkd2 : (c.kind != 4) = false := by simpa using hkd
                    rcases Bool.eq_false_or_eq_true (stand (xs.take 0) c.a) with hst | hst
                    · exact absurd hst (by rw [List.take_zero]; simp [stand])
                    · have Hbad := hide (chk_bad (firm := firm) (key := key) Hx.out (okAt_6 hkd2 hst))
                      refine wp_region_grew (by kernel_rfl) (by kernel_rfl) ?_
                      iterate 59 (go_big_quiet_step (first | (go_at_call 42; exact grew_of (Kf _).out) | (go_at_call 19; exact grew_of (Kt _).out) | (go_at_call 43; exact grew_of (Ks _).out)))
                      refine wpQuiet_nil ?_
                      intro w5 hw5
                      obtain ⟨⟨w5, hb5⟩, rfl⟩ := hw5
                      clear G0 G1 G2 G3 G4 G5 G6 G7 G8 Kf Kt Ks Hsa
                      have Hb5 := hide hb5; clear hb5
                      go_wp2
                      go_ret
                      exact ⟨by rw [Hbad.out]; rfl, Hbl2.out.trans (Hb5.out.mono Hbl2.out.size)⟩
                  · have hkd2 : (c.kind != 4) = true := by simpa using hkd
                    have Hz := hide (okAt_7 (k := 0) (firm := firm) (key := key) (p := xs.take 0) Hpl.out hz0 hz1 hz2 (by rw [HT.out]; exact hz3) (by rw [HpD.out]; exact hz4) hz5 (by rw [hkd2, Bool.true_or]))
                    refine wp_region_grew (by kernel_rfl) (by kernel_rfl) ?_
                    iterate 59 (go_big_quiet_step (first | (go_at_call 42; exact grew_of (Kf _).out) | (go_at_call 19; exact grew_of (Kt _).out) | (go_at_call 43; exact grew_of (Ks _).out)))
                    refine wpQuiet_nil ?_
                    intro w5 hw5
                    obtain ⟨⟨w5, hb5⟩, rfl⟩ := hw5
                    have g := G0 ⟨w5, hb5⟩
                    have g1 := G1 ⟨w5, hb5⟩
                    have g2 := G2 ⟨w5, hb5⟩
                    have g3 := G3 ⟨w5, hb5⟩
                    have g4 := G4 ⟨w5, hb5⟩
                    have g5 := G5 ⟨w5, hb5⟩
                    have g6 := G6 ⟨w5, hb5⟩
                    have g7 := G7 ⟨w5, hb5⟩
                    have g8 := G8 ⟨w5, hb5⟩
                    dsimp only at g g1 g2 g3 g4 g5 g6 g7 g8
                    clear G0 G1 G2 G3 G4 G5 G6 G7 G8 Kf Kt Ks Hsa hz0 hz1 hz2 hz3 hz4 hz5
                    have Hb5 := hide hb5; clear hb5
                    go_wp2_with fail
                    refine (digest3_any c _).mono ?_
                    rintro e w6 ⟨rfl, hb6⟩
                    have Hb6 := hide (Hbl2.out.trans ((Hb5.out.trans (hb6.mono Hb5.out.size)).mono Hbl2.out.size)); clear hb6
                    clear g g1 g2 g3 g4 g5 g6 g7 g8
                    go_wp2
                    go_roundg (gk - 1)
                    case measure => have := Hk.out; omega
                    case rel =>
                      refine ⟨0 + 1, by have := Hk.out; omega, by go_num, ?_, ok_more Hok.out Hx.out Hz.out, Hb6.out⟩
                      rw [take_snoc Hx.out, prevD, if_neg (by simp), lastC_snoc]
            · obtain ⟨m, rfl⟩ : ∃ m, k = m + 1 := ⟨k - 1, by omega⟩
              obtain ⟨b', off', c', e', _, hx', hc'⟩ := Hsa.out.at_ (k := m) (by omega)
              injection e' with e'
              injection e' with e1 e2
              subst e1
              subst e2
              have hlast : (lastC (List.take (m + 1) xs)) = c' := by rw [take_snoc hx', lastC_snoc]
              have gT := hc'.2.2.1
              rw [← hlast, HT.out] at gT
              have GT := Wd.cell gT
              have hz2b : (c.seq != (m : Int) + 1 + 1) = false := by rw [← hz2]; norm_cast
              clear gT hc' hx'
              rcases Bool.eq_false_or_eq_true (decide (c.time < T)) with hz3 | hz3
              · have Hbad := hide (chk_bad (firm := firm) (key := key) Hx.out (okAt_3 (by rw [HT.out]; exact hz3)))
                refine wp_region_grew (by kernel_rfl) (by kernel_rfl) ?_
                iterate 59 (go_big_quiet_step (first | (go_at_call 42; exact grew_of (Kf _).out) | (go_at_call 19; exact grew_of (Kt _).out) | (go_at_call 43; exact grew_of (Ks _).out)))
                refine wpQuiet_nil ?_
                intro w5 hw5
                obtain ⟨⟨w5, hb5⟩, rfl⟩ := hw5
                clear G0 G1 G2 G3 G4 G5 G6 G7 G8 Kf Kt Ks Hsa
                have Hb5 := hide hb5; clear hb5
                go_wp2
                go_ret
                exact ⟨by rw [Hbad.out]; rfl, Hbl2.out.trans (Hb5.out.mono Hbl2.out.size)⟩
              · rcases Bool.eq_false_or_eq_true (c.prev != pD) with hz4 | hz4
                · have Hbad := hide (chk_bad (firm := firm) (key := key) Hx.out (okAt_4 (by rw [HpD.out]; exact hz4)))
                  refine wp_region_grew (by kernel_rfl) (by kernel_rfl) ?_
                  iterate 59 (go_big_quiet_step (first | (go_at_call 42; exact grew_of (Kf _).out) | (go_at_call 19; exact grew_of (Kt _).out) | (go_at_call 43; exact grew_of (Ks _).out)))
                  refine wpQuiet_nil ?_
                  intro w5 hw5
                  obtain ⟨⟨w5, hb5⟩, rfl⟩ := hw5
                  clear G0 G1 G2 G3 G4 G5 G6 G7 G8 Kf Kt Ks Hsa
                  have Hb5 := hide hb5; clear hb5
                  go_wp2
                  go_ret
                  exact ⟨by rw [Hbad.out]; rfl, Hbl2.out.trans (Hb5.out.mono Hbl2.out.size)⟩
                · rcases Bool.eq_false_or_eq_true (c.tag != tagC key c) with hz5 | hz5
                  · have Hbad := hide (chk_bad (firm := firm) (key := key) Hx.out (okAt_5 hz5))
                    refine wp_region_grew (by kernel_rfl) (by kernel_rfl) ?_
                    iterate 59 (go_big_quiet_step (first | (go_at_call 42; exact grew_of (Kf _).out) | (go_at_call 19; exact grew_of (Kt _).out) | (go_at_call 43; exact grew_of (Ks _).out)))
                    refine wpQuiet_nil ?_
                    intro w5 hw5
                    obtain ⟨⟨w5, hb5⟩, rfl⟩ := hw5
                    clear G0 G1 G2 G3 G4 G5 G6 G7 G8 Kf Kt Ks Hsa
                    have Hb5 := hide hb5; clear hb5
                    go_wp2
                    go_ret
                    exact ⟨by rw [Hbad.out]; rfl, Hbl2.out.trans (Hb5.out.mono Hbl2.out.size)⟩
                  · rcases Bool.eq_false_or_eq_true (c.kind == 4) with hkd | hkd
                    · have hkd2 : (c.kind != 4) = false := by simpa using hkd
                      rcases Bool.eq_false_or_eq_true (stand (xs.take (m + 1)) c.a) with hst | hst
                      · have Hz := hide (okAt_7 (k := (m + 1)) (firm := firm) (key := key) (p := xs.take (m + 1)) Hpl.out hz0 hz1 hz2 (by rw [HT.out]; exact hz3) (by rw [HpD.out]; exact hz4) hz5 (by rw [hst, Bool.or_true]))
                        refine wp_region_grew (by kernel_rfl) (by kernel_rfl) ?_
                        iterate 59 (go_big_quiet_step (first | (go_at_call 42; exact grew_of (Kf _).out) | (go_at_call 19; exact grew_of (Kt _).out) | (go_at_call 43; exact grew_of (Ks _).out)))
                        refine wpQuiet_nil ?_
                        intro w5 hw5
                        obtain ⟨⟨w5, hb5⟩, rfl⟩ := hw5
                        have g := G0 ⟨w5, hb5⟩
                        have g1 := G1 ⟨w5, hb5⟩
                        have g2 := G2 ⟨w5, hb5⟩
                        have g3 := G3 ⟨w5, hb5⟩
                        have g4 := G4 ⟨w5, hb5⟩
                        have g5 := G5 ⟨w5, hb5⟩
                        have g6 := G6 ⟨w5, hb5⟩
                        have g7 := G7 ⟨w5, hb5⟩
                        have g8 := G8 ⟨w5, hb5⟩
                        dsimp only at g g1 g2 g3 g4 g5 g6 g7 g8
                        clear G0 G1 G2 G3 G4 G5 G6 G7 G8 Kf Kt Ks Hsa hz0 hz1 hz2 hz3 hz4 hz5
                        have Hb5 := hide hb5; clear hb5
                        go_wp2_with fail
                        refine (digest3_any c _).mono ?_
                        rintro e w6 ⟨rfl, hb6⟩
                        have Hb6 := hide (Hbl2.out.trans ((Hb5.out.trans (hb6.mono Hb5.out.size)).mono Hbl2.out.size)); clear hb6
                        clear g g1 g2 g3 g4 g5 g6 g7 g8
                        go_wp2
                        go_roundg (gk - 1)
                        case measure => have := Hk.out; omega
                        case rel =>
                          refine ⟨(m + 1) + 1, by have := Hk.out; omega, by go_num, ?_, ok_more Hok.out Hx.out Hz.out, Hb6.out⟩
                          rw [take_snoc Hx.out, prevD, if_neg (by simp), lastC_snoc]
                      · have Hbad := hide (chk_bad (firm := firm) (key := key) Hx.out (okAt_6 hkd2 hst))
                        refine wp_region_grew (by kernel_rfl) (by kernel_rfl) ?_
                        iterate 59 (go_big_quiet_step (first | (go_at_call 42; exact grew_of (Kf _).out) | (go_at_call 19; exact grew_of (Kt _).out) | (go_at_call 43; exact grew_of (Ks _).out)))
                        refine wpQuiet_nil ?_
                        intro w5 hw5
                        obtain ⟨⟨w5, hb5⟩, rfl⟩ := hw5
                        clear G0 G1 G2 G3 G4 G5 G6 G7 G8 Kf Kt Ks Hsa
                        have Hb5 := hide hb5; clear hb5
                        go_wp2
                        go_ret
                        exact ⟨by rw [Hbad.out]; rfl, Hbl2.out.trans (Hb5.out.mono Hbl2.out.size)⟩
                    · have hkd2 : (c.kind != 4) = true := by simpa using hkd
                      have Hz := hide (okAt_7 (k := (m + 1)) (firm := firm) (key := key) (p := xs.take (m + 1)) Hpl.out hz0 hz1 hz2 (by rw [HT.out]; exact hz3) (by rw [HpD.out]; exact hz4) hz5 (by rw [hkd2, Bool.true_or]))
                      refine wp_region_grew (by kernel_rfl) (by kernel_rfl) ?_
                      iterate 59 (go_big_quiet_step (first | (go_at_call 42; exact grew_of (Kf _).out) | (go_at_call 19; exact grew_of (Kt _).out) | (go_at_call 43; exact grew_of (Ks _).out)))
                      refine wpQuiet_nil ?_
                      intro w5 hw5
                      obtain ⟨⟨w5, hb5⟩, rfl⟩ := hw5
                      have g := G0 ⟨w5, hb5⟩
                      have g1 := G1 ⟨w5, hb5⟩
                      have g2 := G2 ⟨w5, hb5⟩
                      have g3 := G3 ⟨w5, hb5⟩
                      have g4 := G4 ⟨w5, hb5⟩
                      have g5 := G5 ⟨w5, hb5⟩
                      have g6 := G6 ⟨w5, hb5⟩
                      have g7 := G7 ⟨w5, hb5⟩
                      have g8 := G8 ⟨w5, hb5⟩
                      dsimp only at g g1 g2 g3 g4 g5 g6 g7 g8
                      clear G0 G1 G2 G3 G4 G5 G6 G7 G8 Kf Kt Ks Hsa hz0 hz1 hz2 hz3 hz4 hz5
                      have Hb5 := hide hb5; clear hb5
                      go_wp2_with fail
                      refine (digest3_any c _).mono ?_
                      rintro e w6 ⟨rfl, hb6⟩
                      have Hb6 := hide (Hbl2.out.trans ((Hb5.out.trans (hb6.mono Hb5.out.size)).mono Hbl2.out.size)); clear hb6
                      clear g g1 g2 g3 g4 g5 g6 g7 g8
                      go_wp2
                      go_roundg (gk - 1)
                      case measure => have := Hk.out; omega
                      case rel =>
                        refine ⟨(m + 1) + 1, by have := Hk.out; omega, by go_num, ?_, ok_more Hok.out Hx.out Hz.out, Hb6.out⟩
                        rw [take_snoc Hx.out, prevD, if_neg (by simp), lastC_snoc]
    · have hkn : k = n := by have := Hk.out; omega
      subst hkn
      have Hgood := hide (chk_good (key := key) (firm := firm) (l := xs) (by rw [Ha.out.1]; exact hn) (by rw [Ha.out.1]; exact Hok.out))
      go_wp2
      go_ret
      exact ⟨by rw [Hgood.out]; rfl, Hbl.out⟩
end Go.Proofs.Ythpbjceajnaokaa
