/- The library's stable merge in place: the general case, by induction. Condition: rows of at most 100000 claims. -/
import Derived.Test.YthpbjceajnaokaaSmg
import Derived.Deep.DeepCutAuto
import Derived.Deep.LoopGhost
namespace Go.Proofs.Ythpbjceajnaokaa
open Go.RowKit

theorem split_le {L R : List Cl} {i j : Nat} {u v : Cl} (sL : srt L) (sR : srt R) (hu : L[i]? = some u) (hv : R[j]? = some v) (h : ltC v u = false) : ∀ r ∈ R.drop j, ∀ y ∈ L.take (i + 1), ltC r y = false := by
  intro r hr y hy
  have h1 := take_le (y := v) sL hu h y hy
  obtain ⟨q, hq, hrq⟩ := mem_drop_get hr
  by_cases he : q = j
  · subst he; rw [hv] at hrq; injection hrq with hrq; rw [← hrq]; exact h1
  · exact leC_trans h1 (srt_get sR hv hrq (by omega))
theorem split_lt {L R : List Cl} {i j : Nat} {u v : Cl} (sL : srt L) (sR : srt R) (hu : L[i]? = some u) (hv : R[j]? = some v) (h : ltC v u = true) : ∀ r ∈ R.take (j + 1), ∀ y ∈ L.drop i, ltC r y = true := by
  intro r hr y hy
  have h1 := drop_gt (y := v) sL hu h y hy
  obtain ⟨q, hq, hrq⟩ := mem_take_get hr
  by_cases he : q = j
  · subst he; rw [hv] at hrq; injection hrq with hrq; rw [← hrq]; exact h1
  · exact le_lt (srt_get sR hrq hv (by omega)) h1
/-- The search has found where to part. -/
def Parted (L R : List Cl) (a m b s : Nat) : Prop := (∀ r ∈ R.drop (b - m), ∀ y ∈ L.take (s - a), ltC r y = false) ∧ ∀ r ∈ R.take (b - m), ∀ y ∈ L.drop (s - a), ltC r y = true
/-- What the search knows. -/
def Seek (L R : List Cl) (a m n' s0 r0 s r : Nat) : Prop :=
  (s = s0 ∨ ∃ u v, L[s - 1 - a]? = some u ∧ R[n' - s - m]? = some v ∧ ltC v u = false) ∧ (r = r0 ∨ ∃ u v, L[r - a]? = some u ∧ R[n' - 1 - r - m]? = some v ∧ ltC v u = true)
theorem Seek.parted {L R : List Cl} {a m b n' s0 r0 s : Nat} (h : Seek L R a m n' s0 r0 s s) (sL : srt L) (sR : srt R) (hL : L.length = m - a) (hR : R.length = b - m) (h0 : s0 = a ∨ n' - s0 = b) (h1 : r0 = m ∨ n' - r0 = m) (hs0 : s0 ≤ s) (ha : a ≤ s0) (hs : s ≤ r0) (hr : r0 ≤ m) (hn : r0 + m ≤ n') :
    Parted L R a m (n' - s) s := by
  obtain ⟨h2, h3⟩ := h
  refine ⟨?_, ?_⟩
  · by_cases he : s = s0
    · subst he
      rcases h0 with rfl | h0
      · rw [Nat.sub_self]; simp
      · rw [List.drop_eq_nil_of_le (by rw [hR]; omega)]; simp
    · rcases h2 with h2 | ⟨u, v, hu, hv, hl⟩
      · exact absurd h2 he
      · have := split_le sL sR hu hv hl
        rw [show s - 1 - a + 1 = s - a by omega] at this
        exact this
  · by_cases he : s = r0
    · subst he
      rcases h1 with rfl | h1
      · rw [List.drop_eq_nil_of_le (by rw [hL]; exact Nat.le_refl _)]; simp
      · rw [h1, Nat.sub_self]; simp
    · rcases h3 with h3 | ⟨u, v, hu, hv, hl⟩
      · exact absurd h3 he
      · have := split_lt sL sR hu hv hl
        rw [show n' - 1 - s - m + 1 = n' - s - m by omega] at this
        exact this

set_option maxRecDepth 100000 in
set_option maxHeartbeats 4000000 in
theorem sym_more (N : Nat) (ih : SymC N) (g n cap : Nat) (P L R S : List Cl) (w : World) (hr : Row w g cap (P ++ L ++ R ++ S)) (hn : (P ++ L ++ R ++ S).length = n) (hn0 : n ≤ 100000) (hL : 1 < L.length) (hR : 1 < R.length) (sL : srt L) (sR : srt R) (hN : L.length + R.length ≤ N + 1)
    (a m b : Nat) (ha : P.length = a) (hm : a + L.length = m) (hb : m + R.length = b) :
    Calls Try.prog 68 #[.slice (some ⟨g, 0, none⟩) n cap, .int .i64 a, .int .i64 m, .int .i64 b, .func (.func 49) #[] #[]] w (NoRes w g cap (P ++ R.foldl putF L ++ S)) := by
  have hbn : b ≤ n := by rw [← hn, ← hb, ← hm, ← ha]; simp only [List.length_append]; omega
  have ham : a + 1 < m := by omega
  have hmb : m + 1 < b := by omega
  have hNb : b - a ≤ N + 1 := by omega
  have Hih := hide ih
  have Hr := hide hr
  have Hn := hide hn
  have Hl := hide (And.intro ha (And.intro (show L.length = m - a by omega) (show R.length = b - m by omega)))
  have Hs := hide (And.intro sL sR)
  clear hr ha hL hm sL sR hR hb ih hN hn
  have he : ((b : Int) - (m : Int) == 1) = false := by rw [beq_eq_false_iff_ne]; omega
  have he0 : ((m : Int) - (a : Int) == 1) = false := by rw [beq_eq_false_iff_ne]; omega
  obtain ⟨mid, hmid⟩ : ∃ h : Nat, ((a : Int) + (b : Int)) / 2 = (h : Int) := ⟨(a + b) / 2, by omega⟩
  have hm1 : a + 1 < mid := by omega
  have hm2 : mid + 1 < b := by omega
  have hm3 : 2 * mid ≤ a + b ∧ a + b ≤ 2 * mid + 1 := by omega
  have Hm3 := hide hm3; clear hm3
  obtain ⟨n', hn'⟩ : ∃ h : Nat, (mid : Int) + (m : Int) = (h : Int) := ⟨mid + m, by omega⟩
  have hn2 : n' = mid + m := by omega
  have Hn2 := hide hn2; clear hn2
  go_enter Try.func68, Try.ntmps68
  go_upto_if 140 with (fail)
  go_cut [20, 21] (fun v u wx => ∃ s0 r0 : Nat, v = .int .i64 (s0 : Int) ∧ u = .int .i64 (r0 : Int) ∧ wx = w ∧ a ≤ s0 ∧ s0 ≤ r0 ∧ r0 ≤ m ∧ r0 + m ≤ n' ∧ n' ≤ b + s0 ∧ (s0 = a ∨ n' - s0 = b) ∧ (r0 = m ∨ n' - r0 = m))
  case first =>
    as_aux_lemma =>
      rcases Nat.lt_or_ge mid m with hlt | hge
      · go_wp2_with fail
        go_meet
        exact ⟨n' - b, mid, val_i64 (by have := Hn2.out; have := Hm3.out; omega), rfl, rfl, by have := Hn2.out; have := Hm3.out; omega, by have := Hn2.out; have := Hm3.out; omega, by omega, by have := Hn2.out; omega, by omega, .inr (by have := Hn2.out; have := Hm3.out; omega), .inr (by have := Hn2.out; omega)⟩
      · go_wp2_with fail
        go_meet
        exact ⟨a, m, rfl, rfl, rfl, Nat.le_refl _, by omega, Nat.le_refl _, by have := Hn2.out; omega, by have := Hn2.out; have := Hm3.out; omega, .inl rfl, .inl rfl⟩
  case rest =>
    as_aux_lemma =>
      obtain ⟨s0, r0, rfl, rfl, hwc, hs1, hs2, hs3, hs4, hs5, hs6, hs7⟩ := hcut
      obtain rfl : w = wc := hwc.symm
      have Hs0 := hide (And.intro hs6 hs7); clear hs6 hs7
      obtain ⟨p, hp⟩ : ∃ p : Nat, (n' : Int) - 1 = (p : Int) := ⟨n' - 1, by have := Hn2.out; omega⟩
      have hp2 : n' = p + 1 := by omega
      have Hp2 := hide hp2; clear hp2
      go_wp2
      clear hp
      go_loopg [20, 21] n (fun gk si sj wr => ∃ (i j : Nat), si = .int .i64 (i : Int) ∧ sj = .int .i64 (j : Int) ∧ s0 ≤ i ∧ i ≤ j ∧ j ≤ r0 ∧ j - i ≤ gk ∧ Seek L R a m n' s0 r0 i j ∧ Row wr g cap (P ++ L ++ R ++ S) ∧ w.grownBy wr (some g))
      case atStart => exact ⟨s0, r0, rfl, rfl, Nat.le_refl _, hs2, Nat.le_refl _, by omega, ⟨.inl rfl, .inl rfl⟩, Hr.out, grow_refl _ _⟩
      case round =>
        obtain ⟨i, j, rfl, rfl, hi, hij, hj, hgk, hsk, hrow, hgr⟩ := hrel
        have Hsk := hide hsk; clear hsk
        have Hrow := hide hrow; clear hrow
        have Hgr := hide hgr; clear hgr
        by_cases hlt : i < j
        · obtain ⟨h, hh⟩ : ∃ h : Nat, ((i : Int) + (j : Int)) / 2 = (h : Int) := ⟨(i + j) / 2, by omega⟩
          have hih : i ≤ h := by omega
          have hhj : h < j := by omega
          obtain ⟨d, hd⟩ : ∃ d : Nat, (p : Int) - (h : Int) = (d : Int) := ⟨p - h, by have := Hp2.out; omega⟩
          have hd2 : d = p - h := by omega
          have hdm : m ≤ d := by have := Hp2.out; omega
          have hdb : d < b := by have := Hp2.out; omega
          obtain ⟨u, hu⟩ : ∃ u, L[h - a]? = some u := ⟨L[h - a]'(by have := Hl.out.2.1; omega), List.getElem?_eq_getElem _⟩
          obtain ⟨v, hv⟩ : ∃ v, R[d - m]? = some v := ⟨R[d - m]'(by have := Hl.out.2.2; omega), List.getElem?_eq_getElem _⟩
          have hul : (P ++ L ++ R ++ S)[h]? = some u := by
            have h1 := (List.getElem?_eq_some_iff.1 hu).1
            rw [List.append_assoc, List.append_assoc, List.getElem?_append_right (by rw [Hl.out.1]; omega), Hl.out.1, List.getElem?_append_left h1]
            exact hu
          have hvl : (P ++ L ++ R ++ S)[d]? = some v := by
            have h1 := (List.getElem?_eq_some_iff.1 hv).1
            rw [List.append_assoc, List.getElem?_append_right (by rw [List.length_append, Hl.out.1, Hl.out.2.1]; omega), List.length_append, Hl.out.1, Hl.out.2.1, show d - (a + (m - a)) = d - m by omega, List.getElem?_append_left h1]
            exact hv
          have Hu := hide hu
          have Hv := hide hv
          have Hd2 := hide hd2
          clear hu hv hd2
          obtain ⟨x0, x1, x2, x3, x4, x5, x6, x7, x8⟩ := Hrow.out.at_ hvl
          obtain ⟨y0, y1, y2, y3, y4, y5, y6, y7, y8⟩ := Hrow.out.at_ hul
          clear hul hvl
          have X0 := Wd.cell x0; have X1 := Wd.cell x1; have X2 := Wd.cell x2; have X3 := Wd.cell x3; have X4 := Wd.cell x4; have X5 := Wd.cell x5; have X6 := Wd.cell x6; have X7 := Wd.cell x7; have X8 := Wd.cell x8
          have Y0 := Wd.cell y0; have Y1 := Wd.cell y1; have Y2 := Wd.cell y2; have Y3 := Wd.cell y3; have Y4 := Wd.cell y4; have Y5 := Wd.cell y5; have Y6 := Wd.cell y6; have Y7 := Wd.cell y7; have Y8 := Wd.cell y8
          have hlo := ordI_lt v u
          have q1 : (d : Int) < (n : Int) := by omega
          have q2 : (h : Int) < (n : Int) := by omega
          have q3 : (0 : Int) ≤ (d : Int) := by omega
          have q4 : (0 : Int) ≤ (h : Int) := by omega
          have q5 : IntKind.i64.wrap ((p : Int) - (h : Int)) = (d : Int) := by rw [IntWalk.i64_in _ (by omega)]; exact hd
          clear hd
          rcases Bool.eq_false_or_eq_true (ltC v u) with hyx | hyx
          all_goals
            rw [hyx] at hlo
            have Hyx := hide hyx; clear hyx
            go_wp2
            refine wp_region_grew (by kernel_rfl) (by kernel_rfl) ?_
            repeat (go_big_quiet_step (first | (go_at_call 49; exact grew_of (order1_any v u _))))
            refine wpQuiet_nil ?_
            intro w5 hw5
            obtain ⟨⟨w5, hb5⟩, rfl⟩ := hw5
            clear X0 X1 X2 X3 X4 X5 X6 X7 X8 Y0 Y1 Y2 Y3 Y4 Y5 Y6 Y7 Y8 x0 x1 x2 x3 x4 x5 x6 x7 x8 y0 y1 y2 y3 y4 y5 y6 y7 y8
            have Hr5 := hide (Hrow.out.below hb5)
            have Hg5 := hide (Hgr.out.trans (grown_below hb5 (some g)))
            clear hb5 q5
            go_wp2
          · go_roundg (h - i)
            case measure => omega
            case rel => exact ⟨i, h, rfl, rfl, hi, hih, by omega, by omega, ⟨Hsk.out.1, .inr ⟨u, v, Hu.out, by have h1 := Hv.out; rw [Hd2.out] at h1; rw [Hp2.out, Nat.add_sub_cancel]; exact h1, Hyx.out⟩⟩, Hr5.out, Hg5.out⟩
          · go_roundg (j - (h + 1))
            case measure => omega
            case rel => exact ⟨h + 1, j, val_i64 (by omega), rfl, by omega, by omega, hj, by omega, ⟨.inr ⟨u, v, by rw [Nat.add_sub_cancel]; exact Hu.out, by have h1 := Hv.out; rw [Hd2.out] at h1; rw [Hp2.out, show p + 1 - (h + 1) = p - h by omega]; exact h1, Hyx.out⟩, Hsk.out.2⟩, Hr5.out, Hg5.out⟩
        · obtain rfl : i = j := by omega
          have hpt : Parted L R a m (n' - i) i := Hsk.out.parted Hs.out.1 Hs.out.2 Hl.out.2.1 Hl.out.2.2 Hs0.out.1 Hs0.out.2 hi hs1 hj hs3 hs4
          obtain ⟨e, he⟩ : ∃ e : Nat, (n' : Int) - (i : Int) = (e : Int) := ⟨n' - i, by omega⟩
          have he2 : e = n' - i := by omega
          have hme : m ≤ e := by omega
          have heb : e ≤ b := by omega
          have hmd : i + (e - m) = mid := by have := Hn2.out; omega
          rw [← he2] at hpt
          obtain ⟨hp1, hp2⟩ := hpt
          have l1 : (L.take (i - a)).length = i - a := by rw [List.length_take, Hl.out.2.1]; omega
          have l2 : (L.drop (i - a)).length = m - i := by rw [List.length_drop, Hl.out.2.1]; omega
          have l3 : (R.take (e - m)).length = e - m := by rw [List.length_take, Hl.out.2.2]; omega
          have l4 : (R.drop (e - m)).length = b - e := by rw [List.length_drop, Hl.out.2.2]; omega
          have eL := List.take_append_drop (i - a) L
          have eR := List.take_append_drop (e - m) R
          have sL1 := srt_take Hs.out.1 (i - a)
          have sL2 := srt_drop Hs.out.1 (i - a)
          have sR1 := srt_take Hs.out.2 (e - m)
          have sR2 := srt_drop Hs.out.2 (e - m)
          have hsR := Hs.out.2
          have hrow := Hrow.out
          have hlen := Hn.out
          obtain ⟨L1, hL1⟩ : ∃ l, l = L.take (i - a) := ⟨_, rfl⟩
          obtain ⟨L2, hL2⟩ : ∃ l, l = L.drop (i - a) := ⟨_, rfl⟩
          obtain ⟨R1, hR1⟩ : ∃ l, l = R.take (e - m) := ⟨_, rfl⟩
          obtain ⟨R2, hR2⟩ : ∃ l, l = R.drop (e - m) := ⟨_, rfl⟩
          rw [← hL1] at l1 eL sL1 hp1
          rw [← hL2] at l2 eL sL2 hp2
          rw [← hR1] at l3 eR sR1 hp2
          rw [← hR2] at l4 eR sR2 hp1
          rw [← eL, ← eR] at hrow hlen
          rw [← eR] at hsR
          have hres : P ++ R.foldl putF L ++ S = P ++ R1.foldl putF L1 ++ (R2.foldl putF L2 ++ S) := by
            have h := merge_parts (L1 := L1) (L2 := L2) hsR hp2 hp1
            rw [eL, eR] at h
            rw [h]; simp
          have Hres := hide hres
          have Hrow1 := hide (show Row wr g cap (P ++ L1 ++ L2 ++ R1 ++ (R2 ++ S)) by simpa using hrow)
          have Hlen := hide (show (P ++ L1 ++ L2 ++ R1 ++ (R2 ++ S)).length = n by rw [← hlen]; simp)
          have Ll := hide (And.intro l1 (And.intro l2 (And.intro l3 l4)))
          have Ss := hide (And.intro (And.intro sL1 sL2) (And.intro sR1 sR2))
          clear hrow hlen hL1 hL2 hR1 hR2 l1 l2 l3 l4 eL eR sL1 sL2 sR1 sR2 hsR hres hp1 hp2 Hsk Hrow Hs0 Hr Hs
          have Hed := hide (And.intro he2 (And.intro hmd Hl.out.1)); clear he2 hmd
          go_upto_region 39 with (fail)
          go_cut [185] (fun v wx => v = .bool (decide (i < m ∧ m < e)) ∧ wx = wr)
          case first =>
            as_aux_lemma =>
              by_cases h1 : i < m
              · by_cases h2 : m < e
                · have h3 : decide (i < m ∧ m < e) = true := decide_eq_true ⟨h1, h2⟩
                  have H3 := hide h3; clear h3
                  go_wp2_with fail
                  go_meet
                  exact ⟨by rw [H3.out], rfl⟩
                · have h3 : decide (i < m ∧ m < e) = false := decide_eq_false (by omega)
                  have H3 := hide h3; clear h3
                  go_wp2_with fail
                  go_meet
                  exact ⟨by rw [H3.out], rfl⟩
              · have h3 : decide (i < m ∧ m < e) = false := decide_eq_false (by omega)
                have H3 := hide h3; clear h3
                go_wp2_with fail
                go_meet
                exact ⟨by rw [H3.out], rfl⟩
          case rest =>
            as_aux_lemma =>
              obtain ⟨rfl, hwc⟩ := hcut
              obtain rfl : wr = wc := hwc.symm
              go_upto_if 185 with (fail)
              go_cut [185] (fun _ wx => Row wx g cap (P ++ L1 ++ R1 ++ (L2 ++ R2 ++ S)) ∧ w.grownBy wx (some g))
              case first =>
                as_aux_lemma =>
                  rcases Bool.eq_false_or_eq_true (decide (i < m ∧ m < e)) with hq | hq
                  · have hq2 := of_decide_eq_true hq
                    go_wp2_with fail
                    refine (rotate_any g n cap (P ++ L1) L2 R1 (R2 ++ S) _ Hrow1.out Hlen.out hn0 i m e (by rw [List.length_append, Ll.out.1, Hed.out.2.2]; omega) (by rw [List.length_append, List.length_append, Ll.out.1, Ll.out.2.1, Hed.out.2.2]; omega) (by rw [List.length_append, List.length_append, List.length_append, Ll.out.1, Ll.out.2.1, Ll.out.2.2.1, Hed.out.2.2]; omega) (by rw [Ll.out.2.1]; omega) (by rw [Ll.out.2.2.1]; omega)).mono ?_
                    rintro e' w5 ⟨rfl, hr5, hg5⟩
                    have Hr5 := hide hr5; clear hr5
                    have Hg5 := hide hg5; clear hg5
                    go_wp2_with fail
                    go_meet
                    exact ⟨by have h := Hr5.out; simpa using h, Hgr.out.trans Hg5.out⟩
                  · have hq2 := of_decide_eq_false hq
                    have Hq2 := hide hq2; clear hq2
                    go_wp2_with fail
                    go_meet
                    refine ⟨?_, Hgr.out⟩
                    have h := Hrow1.out
                    by_cases him : i < m
                    · have hR1 : R1 = [] := List.eq_nil_of_length_eq_zero (by rw [Ll.out.2.2.1]; have := Hq2.out; omega)
                      rw [hR1] at h ⊢
                      simpa using h
                    · have hL2 : L2 = [] := List.eq_nil_of_length_eq_zero (by rw [Ll.out.2.1]; omega)
                      rw [hL2] at h ⊢
                      simpa using h
              case rest =>
                as_aux_lemma =>
                  obtain ⟨hr2, hg2⟩ := hcut
                  have Hr2 := hide hr2; clear hr2
                  have Hg2 := hide hg2; clear hg2
                  obtain ⟨w2, hw2⟩ : ∃ V : World, V = wc := ⟨_, rfl⟩
                  rw [← hw2] at Hr2 Hg2 ⊢
                  clear hw2 Hrow1 Hgr
                  go_upto_region 41 with (fail)
                  go_cut [199] (fun v wx => v = .bool (decide (a < i ∧ i < mid)) ∧ wx = w2)
                  case first =>
                    as_aux_lemma =>
                      by_cases h1 : a < i
                      · by_cases h2 : i < mid
                        · have h3 : decide (a < i ∧ i < mid) = true := decide_eq_true ⟨h1, h2⟩
                          have H3 := hide h3; clear h3
                          go_wp2_with fail
                          go_meet
                          exact ⟨by rw [H3.out], rfl⟩
                        · have h3 : decide (a < i ∧ i < mid) = false := decide_eq_false (fun h => h2 h.2)
                          have H3 := hide h3; clear h3
                          go_wp2_with fail
                          go_meet
                          exact ⟨by rw [H3.out], rfl⟩
                      · have h3 : decide (a < i ∧ i < mid) = false := decide_eq_false (fun h => h1 h.1)
                        have H3 := hide h3; clear h3
                        go_wp2_with fail
                        go_meet
                        exact ⟨by rw [H3.out], rfl⟩
                  case rest =>
                    as_aux_lemma =>
                      obtain ⟨rfl, hwc⟩ := hcut
                      obtain rfl : w2 = wc := hwc.symm
                      go_upto_if 199 with (fail)
                      go_cut [199] (fun _ wx => Row wx g cap (P ++ R1.foldl putF L1 ++ L2 ++ R2 ++ S) ∧ w.grownBy wx (some g))
                      case first =>
                        as_aux_lemma =>
                          rcases Bool.eq_false_or_eq_true (decide (a < i ∧ i < mid)) with hq | hq
                          · have hq2 := of_decide_eq_true hq
                            go_wp2_with fail
                            refine (Hih.out g n cap P L1 R1 (L2 ++ R2 ++ S) _ Hr2.out (by have h := Hlen.out; simp only [List.length_append] at h ⊢; omega) hn0 (by rw [Ll.out.1]; omega) (by rw [Ll.out.2.2.1]; have := Hed.out.2.1; omega) Ss.out.1.1 Ss.out.2.1 (by rw [Ll.out.1, Ll.out.2.2.1]; have := Hed.out.2.1; omega) a i mid Hed.out.2.2 (by rw [Ll.out.1, Hed.out.2.2]; omega) (by rw [Ll.out.1, Ll.out.2.2.1, Hed.out.2.2]; have := Hed.out.2.1; omega)).mono ?_
                            rintro e' w5 ⟨rfl, hr5, hg5⟩
                            have Hr5 := hide hr5; clear hr5
                            have Hg5 := hide hg5; clear hg5
                            go_wp2_with fail
                            go_meet
                            exact ⟨by have h := Hr5.out; simpa using h, Hg2.out.trans Hg5.out⟩
                          · have hq2 := of_decide_eq_false hq
                            have Hq2 := hide hq2; clear hq2
                            go_wp2_with fail
                            go_meet
                            refine ⟨?_, Hg2.out⟩
                            have h := Hr2.out
                            by_cases hai : a < i
                            · have hR1 : R1 = [] := List.eq_nil_of_length_eq_zero (by rw [Ll.out.2.2.1]; have := Hq2.out; have := Hed.out.2.1; omega)
                              rw [hR1] at h ⊢
                              simpa using h
                            · have hL1 : L1 = [] := List.eq_nil_of_length_eq_zero (by rw [Ll.out.1]; omega)
                              rw [hL1, foldl_sorted (l := []) _ (by rw [List.nil_append]; exact Ss.out.2.1)]
                              rw [hL1] at h
                              simpa using h
                      case rest =>
                        as_aux_lemma =>
                          obtain ⟨hr3, hg3⟩ := hcut
                          have Hr3 := hide hr3; clear hr3
                          have Hg3 := hide hg3; clear hg3
                          obtain ⟨w3, hw3⟩ : ∃ V : World, V = wc := ⟨_, rfl⟩
                          rw [← hw3] at Hr3 Hg3 ⊢
                          clear hw3 Hr2 Hg2
                          have Hm1 := hide (show (R1.foldl putF L1).length = mid - a by rw [foldl_putF_length, Ll.out.1, Ll.out.2.2.1]; have := Hed.out.2.1; omega)
                          go_upto_region 43 with (fail)
                          go_cut [213] (fun v wx => v = .bool (decide (mid < e ∧ e < b)) ∧ wx = w3)
                          case first =>
                            as_aux_lemma =>
                              by_cases h1 : mid < e
                              · by_cases h2 : e < b
                                · have h3 : decide (mid < e ∧ e < b) = true := decide_eq_true ⟨h1, h2⟩
                                  have H3 := hide h3; clear h3
                                  go_wp2_with fail
                                  go_meet
                                  exact ⟨by rw [H3.out], rfl⟩
                                · have h3 : decide (mid < e ∧ e < b) = false := decide_eq_false (fun h => h2 h.2)
                                  have H3 := hide h3; clear h3
                                  go_wp2_with fail
                                  go_meet
                                  exact ⟨by rw [H3.out], rfl⟩
                              · have h3 : decide (mid < e ∧ e < b) = false := decide_eq_false (fun h => h1 h.1)
                                have H3 := hide h3; clear h3
                                go_wp2_with fail
                                go_meet
                                exact ⟨by rw [H3.out], rfl⟩
                          case rest =>
                            as_aux_lemma =>
                              obtain ⟨rfl, hwc⟩ := hcut
                              obtain rfl : w3 = wc := hwc.symm
                              rcases Bool.eq_false_or_eq_true (decide (mid < e ∧ e < b)) with hq | hq
                              · have hq2 := of_decide_eq_true hq
                                go_wp2_with fail
                                refine (Hih.out g n cap (P ++ R1.foldl putF L1) L2 R2 S _ Hr3.out (by have h := Hlen.out; have h2 := Hm1.out; simp only [List.length_append] at h h2 ⊢; have := Ll.out.1; have := Ll.out.2.2.1; have := Hed.out.2.1; omega) hn0 (by rw [Ll.out.2.1]; have := Hed.out.2.1; omega) (by rw [Ll.out.2.2.2]; omega) Ss.out.1.2 Ss.out.2.2 (by rw [Ll.out.2.1, Ll.out.2.2.2]; have := Hed.out.2.1; omega) mid e b (by rw [List.length_append, Hed.out.2.2, Hm1.out]; omega) (by rw [List.length_append, Hed.out.2.2, Hm1.out, Ll.out.2.1]; have := Hed.out.2.1; omega) (by rw [List.length_append, Hed.out.2.2, Hm1.out, Ll.out.2.1, Ll.out.2.2.2]; have := Hed.out.2.1; omega)).mono ?_
                                rintro e' w5 ⟨rfl, hr5, hg5⟩
                                have Hr5 := hide hr5; clear hr5
                                have Hg5 := hide hg5; clear hg5
                                go_wp2_with fail
                                go_end0
                                exact ⟨rfl, by have h := Hr5.out; have h2 := Hres.out; simp only [List.append_assoc] at h h2 ⊢; rw [h2]; exact h, Hg3.out.trans Hg5.out⟩
                              · have hq2 := of_decide_eq_false hq
                                have Hq2 := hide hq2; clear hq2
                                have hfin : Row w3 g cap (P ++ R.foldl putF L ++ S) := by
                                  rw [Hres.out]
                                  have h := Hr3.out
                                  by_cases hmi : mid < e
                                  · have hR2 : R2 = [] := List.eq_nil_of_length_eq_zero (by rw [Ll.out.2.2.2]; have := Hq2.out; omega)
                                    rw [hR2] at h ⊢
                                    simpa using h
                                  · have hL2 : L2 = [] := List.eq_nil_of_length_eq_zero (by rw [Ll.out.2.1]; have := Hed.out.2.1; omega)
                                    rw [hL2, foldl_sorted (l := []) _ (by rw [List.nil_append]; exact Ss.out.2.2)]
                                    rw [hL2] at h
                                    simpa using h
                                have Hfin := hide hfin; clear hfin
                                go_wp2_with fail
                                go_end0
                                exact ⟨rfl, by have h := Hfin.out; rwa [List.append_assoc] at h, Hg3.out⟩
end Go.Proofs.Ythpbjceajnaokaa
