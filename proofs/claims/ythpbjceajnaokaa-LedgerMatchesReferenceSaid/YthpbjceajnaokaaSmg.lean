/- The library's stable merge in place. Condition: rows of at most 100000 claims. -/
import Derived.Test.YthpbjceajnaokaaRot
import Derived.Outline
namespace Go.Proofs.Ythpbjceajnaokaa
open Go.RowKit

def SymC (N : Nat) : Prop := ∀ (g n cap : Nat) (P L R S : List Cl) (w : World), Row w g cap (P ++ L ++ R ++ S) → (P ++ L ++ R ++ S).length = n → n ≤ 100000 → 0 < L.length → 0 < R.length → srt L → srt R → L.length + R.length ≤ N →
  ∀ a m b : Nat, P.length = a → P.length + L.length = m → P.length + L.length + R.length = b →
    Calls Try.prog 68 #[.slice (some ⟨g, 0, none⟩) n cap, .int .i64 a, .int .i64 m, .int .i64 b, .func (.func 49) #[] #[]] w (NoRes w g cap (P ++ R.foldl putF L ++ S))

theorem srt_get {R : List Cl} (h : srt R) {i j : Nat} {u v : Cl} (hu : R[i]? = some u) (hv : R[j]? = some v) (hij : i < j) : ltC v u = false := by
  obtain ⟨hi, rfl⟩ := List.getElem?_eq_some_iff.1 hu
  obtain ⟨hj, rfl⟩ := List.getElem?_eq_some_iff.1 hv
  exact List.pairwise_iff_getElem.1 h i j hi hj hij
theorem mem_take_get {R : List Cl} {k : Nat} {z : Cl} (h : z ∈ R.take k) : ∃ i, i < k ∧ R[i]? = some z := by
  obtain ⟨i, hi⟩ := List.getElem?_of_mem h
  rw [List.getElem?_take] at hi
  split at hi
  · exact ⟨i, by assumption, hi⟩
  · cases hi
theorem mem_drop_get {R : List Cl} {k : Nat} {z : Cl} (h : z ∈ R.drop k) : ∃ i, k ≤ i ∧ R[i]? = some z := by
  obtain ⟨i, hi⟩ := List.getElem?_of_mem h
  rw [List.getElem?_drop] at hi
  exact ⟨k + i, by omega, hi⟩
theorem take_lt {R : List Cl} {k : Nat} {x y : Cl} (hs : srt R) (hy : R[k]? = some y) (h : ltC y x = true) : ∀ z ∈ R.take (k + 1), ltC z x = true := by
  intro z hz
  obtain ⟨i, hi, hzi⟩ := mem_take_get hz
  by_cases he : i = k
  · subst he; rw [hy] at hzi; injection hzi with hzi; rw [← hzi]; exact h
  · exact le_lt (srt_get hs hzi hy (by omega)) h
theorem drop_ge {R : List Cl} {k : Nat} {x y : Cl} (hs : srt R) (hy : R[k]? = some y) (h : ltC y x = false) : ∀ z ∈ R.drop k, ltC z x = false := by
  intro z hz
  obtain ⟨i, hi, hzi⟩ := mem_drop_get hz
  by_cases he : i = k
  · subst he; rw [hy] at hzi; injection hzi with hzi; rw [← hzi]; exact h
  · exact leC_trans h (srt_get hs hy hzi (by omega))
theorem take_le {L : List Cl} {k : Nat} {y z : Cl} (hs : srt L) (hz : L[k]? = some z) (h : ltC y z = false) : ∀ u ∈ L.take (k + 1), ltC y u = false := by
  intro u hu
  obtain ⟨i, hi, hui⟩ := mem_take_get hu
  by_cases he : i = k
  · subst he; rw [hz] at hui; injection hui with hui; rw [← hui]; exact h
  · exact leC_trans (srt_get hs hui hz (by omega)) h
theorem drop_gt {L : List Cl} {k : Nat} {y z : Cl} (hs : srt L) (hz : L[k]? = some z) (h : ltC y z = true) : ∀ u ∈ L.drop k, ltC y u = true := by
  intro u hu
  obtain ⟨i, hi, hui⟩ := mem_drop_get hu
  by_cases he : i = k
  · subst he; rw [hz] at hui; injection hui with hui; rw [← hui]; exact h
  · exact lt_le h (srt_get hs hz hui (by omega))
theorem srt_take {R : List Cl} (h : srt R) (k : Nat) : srt (R.take k) := h.sublist (List.take_sublist k R)
theorem srt_drop {R : List Cl} (h : srt R) (k : Nat) : srt (R.drop k) := h.sublist (List.drop_sublist k R)
theorem one_left {R : List Cl} {k : Nat} {x : Cl} (hs : srt R) (h1 : ∀ z ∈ R.take k, ltC z x = true) (h2 : ∀ z ∈ R.drop k, ltC z x = false) : R.foldl putF [x] = R.take k ++ x :: R.drop k := by
  have h := merge_parts (L1 := []) (L2 := [x]) (R1 := R.take k) (R2 := R.drop k) (by rw [List.take_append_drop]; exact hs) (fun r hr y hy => by simp only [List.mem_singleton] at hy; rw [hy]; exact h1 r hr) (fun r _ y hy => by cases hy)
  rw [List.take_append_drop, List.nil_append] at h
  rw [h, foldl_sorted (l := []) _ (by rw [List.nil_append]; exact srt_take hs k), foldl_sorted (l := [x]) _ ?_]
  · simp
  · unfold srt
    rw [List.pairwise_append]
    exact ⟨by simp, srt_drop hs k, fun a ha b hb => by simp only [List.mem_singleton] at ha; rw [ha]; exact h2 b hb⟩
theorem one_right {L : List Cl} {k : Nat} {y : Cl} (h1 : ∀ z ∈ L.take k, ltC y z = false) (h2 : ∀ z ∈ L.drop k, ltC y z = true) : putF L y = L.take k ++ y :: L.drop k := by
  have h := putF_left (x := y) (L.take k) (L.drop k) h2
  rw [List.take_append_drop] at h
  rw [h, putF_end _ h1]
  simp

set_option maxRecDepth 100000 in
set_option maxHeartbeats 2000000 in
theorem sym_one (g n cap : Nat) (P R S : List Cl) (x : Cl) (w : World) (hr : Row w g cap (P ++ x :: (R ++ S))) (hn : (P ++ x :: (R ++ S)).length = n) (hn0 : n ≤ 100000) (hR : 0 < R.length) (sR : srt R) (a m b : Nat) (ha : P.length = a) (hm : a + 1 = m) (hb : m + R.length = b) :
    Calls Try.prog 68 #[.slice (some ⟨g, 0, none⟩) n cap, .int .i64 a, .int .i64 m, .int .i64 b, .func (.func 49) #[] #[]] w (NoRes w g cap (P ++ R.foldl putF [x] ++ S)) := by
  have hbn : b ≤ n := by rw [← hn, ← hb, ← hm, ← ha]; simp only [List.length_append, List.length_cons]; omega
  have hmb : m < b := by omega
  have Hr := hide hr
  have Hb := hide hb
  have Ha := hide ha
  have HsR := hide sR
  clear hr ha hR hb sR
  subst hm
  have he : (((a + 1 : Nat) : Int) - (a : Int) == 1) = true := by rw [beq_iff_eq]; omega
  obtain ⟨m, hm⟩ : ∃ m, m = a + 1 := ⟨_, rfl⟩
  rw [← hm] at he hmb Hb ⊢
  have Hm := hide hm
  have hab : a < m := by omega
  clear hm
  go_enter Try.func68, Try.ntmps68
  go_wp2
  go_loopg [10, 11] b (fun gk si sj wr => ∃ (i j : Nat), si = .int .i64 (i : Int) ∧ sj = .int .i64 (j : Int) ∧ m ≤ i ∧ i ≤ j ∧ j ≤ b ∧ j - i ≤ gk ∧ (∀ y ∈ R.take (i - m), ltC y x = true) ∧ (∀ y ∈ R.drop (j - m), ltC y x = false) ∧ Row wr g cap (P ++ x :: (R ++ S)) ∧ w.grownBy wr (some g))
  case atStart => exact ⟨m, b, rfl, rfl, by omega, by omega, by omega, by omega, by rw [Nat.sub_self]; simp, by rw [List.drop_eq_nil_of_le (by have := Hb.out; omega)]; simp, Hr.out, grow_refl w _⟩
  case round =>
    obtain ⟨i, j, rfl, rfl, hi, hij, hj, hgk, h1, h2, hrow, hgr⟩ := hrel
    have H12 := hide (And.intro h1 h2); clear h1 h2
    have Hrow := hide hrow; clear hrow
    have Hgr := hide hgr; clear hgr
    by_cases hlt : i < j
    · obtain ⟨h, hh⟩ : ∃ h : Nat, ((i : Int) + (j : Int)) / 2 = (h : Int) := ⟨(i + j) / 2, by omega⟩
      have hih : i ≤ h := by omega
      have hhj : h < j := by omega
      obtain ⟨y, hy⟩ : ∃ y, R[h - m]? = some y := ⟨R[h - m]'(by have := Hb.out; omega), List.getElem?_eq_getElem _⟩
      have Hy := hide hy
      have hxl : (P ++ x :: (R ++ S))[a]? = some x := get_mid P _ x _ Ha.out
      have hyl : (P ++ x :: (R ++ S))[h]? = some y := by
        have hlR := (List.getElem?_eq_some_iff.1 hy).1
        rw [List.getElem?_append_right (by rw [Ha.out]; omega), Ha.out, show h - a = (h - m) + 1 by have := Hm.out; omega, List.getElem?_cons_succ, List.getElem?_append_left hlR]
        exact hy
      clear hy
      obtain ⟨x0, x1, x2, x3, x4, x5, x6, x7, x8⟩ := Hrow.out.at_ hxl
      obtain ⟨y0, y1, y2, y3, y4, y5, y6, y7, y8⟩ := Hrow.out.at_ hyl
      clear hxl hyl
      have X0 := Wd.cell x0; have X1 := Wd.cell x1; have X2 := Wd.cell x2; have X3 := Wd.cell x3; have X4 := Wd.cell x4; have X5 := Wd.cell x5; have X6 := Wd.cell x6; have X7 := Wd.cell x7; have X8 := Wd.cell x8
      have Y0 := Wd.cell y0; have Y1 := Wd.cell y1; have Y2 := Wd.cell y2; have Y3 := Wd.cell y3; have Y4 := Wd.cell y4; have Y5 := Wd.cell y5; have Y6 := Wd.cell y6; have Y7 := Wd.cell y7; have Y8 := Wd.cell y8
      have hlo := ordI_lt y x
      have q1 : (a : Int) < (n : Int) := by omega
      have q2 : (h : Int) < (n : Int) := by omega
      have q3 : (0 : Int) ≤ (a : Int) := by omega
      have q4 : (0 : Int) ≤ (h : Int) := by omega
      rcases Bool.eq_false_or_eq_true (ltC y x) with hyx | hyx
      all_goals
        rw [hyx] at hlo
        have Hyx := hide hyx; clear hyx
        go_wp2
        refine wp_region_grew (by kernel_rfl) (by kernel_rfl) ?_
        repeat (go_big_quiet_step (first | (go_at_call 49; exact grew_of (order1_any y x _))))
        refine wpQuiet_nil ?_
        intro w5 hw5
        obtain ⟨⟨w5, hb5⟩, rfl⟩ := hw5
        clear X0 X1 X2 X3 X4 X5 X6 X7 X8 Y0 Y1 Y2 Y3 Y4 Y5 Y6 Y7 Y8 x0 x1 x2 x3 x4 x5 x6 x7 x8 y0 y1 y2 y3 y4 y5 y6 y7 y8
        have Hr5 := hide (Hrow.out.below hb5)
        have Hg5 := hide (Hgr.out.trans (grown_below hb5 (some g)))
        clear hb5
        go_wp2
      · go_roundg (j - (h + 1))
        case measure => omega
        case rel => exact ⟨h + 1, j, val_i64 (by omega), rfl, by omega, by omega, hj, by omega, by rw [show h + 1 - m = h - m + 1 by omega]; exact take_lt HsR.out Hy.out Hyx.out, H12.out.2, Hr5.out, Hg5.out⟩
      · go_roundg (h - i)
        case measure => omega
        case rel => exact ⟨i, h, rfl, rfl, hi, by omega, by omega, by omega, H12.out.1, drop_ge HsR.out Hy.out Hyx.out, Hr5.out, Hg5.out⟩
    · obtain rfl : i = j := by omega
      have hres : R.foldl putF [x] = R.take (i - m) ++ x :: R.drop (i - m) := one_left HsR.out H12.out.1 H12.out.2
      obtain ⟨p, hp⟩ : ∃ p, p = i - m := ⟨_, rfl⟩
      rw [← hp] at hres
      have hRs : R.take p ++ R.drop p = R := List.take_append_drop p R
      have hlp : (R.take p).length = p := by rw [List.length_take]; have := Hb.out; omega
      obtain ⟨R1, hR1⟩ : ∃ l, l = R.take p := ⟨_, rfl⟩
      obtain ⟨R2, hR2⟩ : ∃ l, l = R.drop p := ⟨_, rfl⟩
      rw [← hR1, ← hR2] at hres hRs
      rw [← hR1] at hlp
      have Hres := hide (And.intro hres (And.intro hRs (And.intro hlp hp)))
      clear hres hRs hlp hR1 hR2 H12 hp
      go_wp2
      go_loopg [13] n (fun gk sk wr => ∃ (q k : Nat), sk = .int .i64 (k : Int) ∧ k = a + q ∧ q ≤ p ∧ p - q ≤ gk ∧ Row wr g cap (P ++ R1.take q ++ x :: (R1.drop q ++ (R2 ++ S))) ∧ w.grownBy wr (some g))
      case atStart => exact ⟨0, a, rfl, rfl, by omega, by have := Hres.out.2.2.2; have := Hb.out; omega, by have h := Hrow.out; rw [← Hres.out.2.1] at h; simpa using h, Hgr.out⟩
      case round =>
        obtain ⟨q, k, rfl, hk, hq, hgk, hrow, hgr⟩ := hrel
        clear Hrow Hgr
        have Hrow := hide hrow; clear hrow
        have Hgr := hide hgr; clear hgr
        have Hk := hide hk; clear hk
        by_cases hqp : q < p
        · obtain ⟨y, hy⟩ : ∃ y, R1[q]? = some y := ⟨R1[q]'(by rw [Hres.out.2.2.1]; omega), List.getElem?_eq_getElem _⟩
          have hd : R1.drop q = y :: R1.drop (q + 1) := by
            obtain ⟨h1, rfl⟩ := List.getElem?_eq_some_iff.1 hy
            exact List.drop_eq_getElem_cons h1
          have ht : R1.take (q + 1) = R1.take q ++ [y] := take_snoc hy
          have hrow2 := Hrow.out
          rw [hd, List.cons_append] at hrow2
          have hlq : (P ++ R1.take q).length = k := by rw [List.length_append, Ha.out, List.length_take, Hres.out.2.2.1, Hk.out]; omega
          have hxl : (P ++ R1.take q ++ x :: (y :: (R1.drop (q + 1) ++ (R2 ++ S))))[k]? = some x := get_mid _ _ x _ hlq
          have hyl : (P ++ R1.take q ++ x :: (y :: (R1.drop (q + 1) ++ (R2 ++ S))))[k + 1]? = some y := by
            have e : P ++ R1.take q ++ x :: (y :: (R1.drop (q + 1) ++ (R2 ++ S))) = (P ++ R1.take q ++ [x]) ++ y :: (R1.drop (q + 1) ++ (R2 ++ S)) := by simp
            rw [e]
            exact get_mid _ _ y _ (by rw [List.length_append, hlq]; rfl)
          have hset : ((P ++ R1.take q ++ x :: (y :: (R1.drop (q + 1) ++ (R2 ++ S)))).set k y).set (k + 1) x = P ++ R1.take (q + 1) ++ x :: (R1.drop (q + 1) ++ (R2 ++ S)) := by
            rw [set_mid _ _ x y k hlq, ht]
            have e : P ++ R1.take q ++ y :: (y :: (R1.drop (q + 1) ++ (R2 ++ S))) = (P ++ R1.take q ++ [y]) ++ y :: (R1.drop (q + 1) ++ (R2 ++ S)) := by simp
            rw [e, set_mid _ _ y x (k + 1) (by rw [List.length_append, hlq]; rfl)]
            simp
          have Hset := hide hset
          have Hlt := hide (And.intro (List.getElem?_eq_some_iff.1 hxl).1 (List.getElem?_eq_some_iff.1 hyl).1)
          obtain ⟨x0, x1, x2, x3, x4, x5, x6, x7, x8⟩ := hrow2.at_ hxl
          obtain ⟨y0, y1, y2, y3, y4, y5, y6, y7, y8⟩ := hrow2.at_ hyl
          have hf := hrow2.frozen
          have Hrow2 := hide hrow2
          have hki : (k : Int) < (i : Int) - 1 := by have := Hres.out.2.2.2; have := Hk.out; have := Hm.out; omega
          have hin : i ≤ n := by omega
          have e3 : (k : Int) + 1 < (n : Int) := by omega
          have e4 : (0 : Int) ≤ (k : Int) := by omega
          clear hset hxl hyl hrow2 hd ht hlq hy
          go_wp2
          go_region
          go_wp2
          go_roundg (p - (q + 1))
          case measure => omega
          case rel =>
            refine ⟨q + 1, k + 1, by go_num, by have := Hk.out; omega, by omega, by omega, ?_, swap_grown2 Hgr.out⟩
            have h := swap_row2 (x := x) (y := y) Hrow2.out Hlt.out.1 Hlt.out.2
            rw [Hset.out] at h
            exact h
        · obtain rfl : q = p := by omega
          have hki : ¬ (k : Int) < (i : Int) - 1 := by have := Hres.out.2.2.2; have := Hk.out; have := Hm.out; omega
          have hfin : Row wr g cap (P ++ R.foldl putF [x] ++ S) := by
            have h := Hrow.out
            rw [List.take_of_length_le (by rw [Hres.out.2.2.1]; exact Nat.le_refl _), List.drop_eq_nil_of_le (by rw [Hres.out.2.2.1]; exact Nat.le_refl _)] at h
            rw [Hres.out.1]
            simpa using h
          have Hfin := hide hfin; clear hfin
          go_wp2
          go_end0
          exact ⟨rfl, by have h := Hfin.out; rwa [List.append_assoc] at h, Hgr.out⟩

set_option maxRecDepth 100000 in
set_option maxHeartbeats 2000000 in
theorem sym_last (g n cap : Nat) (P L S : List Cl) (y : Cl) (w : World) (hr : Row w g cap (P ++ L ++ y :: S)) (hn : (P ++ L ++ y :: S).length = n) (hn0 : n ≤ 100000) (hL : 1 < L.length) (sL : srt L) (a m b : Nat) (ha : P.length = a) (hm : a + L.length = m) (hb : m + 1 = b) :
    Calls Try.prog 68 #[.slice (some ⟨g, 0, none⟩) n cap, .int .i64 a, .int .i64 m, .int .i64 b, .func (.func 49) #[] #[]] w (NoRes w g cap (P ++ putF L y ++ S)) := by
  have hbn : b ≤ n := by rw [← hn, ← hb, ← hm, ← ha]; simp only [List.length_append, List.length_cons]; omega
  have ham : a + 1 < m := by omega
  have Hr := hide hr
  have Hm := hide hm
  have Ha := hide ha
  have HsL := hide sL
  clear hr ha hL hm sL
  subst hb
  have he : (((m + 1 : Nat) : Int) - (m : Int) == 1) = true := by rw [beq_iff_eq]; omega
  have he0 : ((m : Int) - (a : Int) == 1) = false := by rw [beq_eq_false_iff_ne]; omega
  obtain ⟨b, hb⟩ : ∃ b, b = m + 1 := ⟨_, rfl⟩
  rw [← hb] at he hbn ⊢
  have Hb := hide hb
  have hmb : m < b := by omega
  clear hb
  go_enter Try.func68, Try.ntmps68
  go_wp2
  go_loopg [14, 15] b (fun gk si sj wr => ∃ (i j : Nat), si = .int .i64 (i : Int) ∧ sj = .int .i64 (j : Int) ∧ a ≤ i ∧ i ≤ j ∧ j ≤ m ∧ j - i ≤ gk ∧ (∀ z ∈ L.take (i - a), ltC y z = false) ∧ (∀ z ∈ L.drop (j - a), ltC y z = true) ∧ Row wr g cap (P ++ L ++ y :: S) ∧ w.grownBy wr (some g))
  case atStart => exact ⟨a, m, rfl, rfl, by omega, by omega, by omega, by omega, by rw [Nat.sub_self]; simp, by rw [List.drop_eq_nil_of_le (by have := Hm.out; omega)]; simp, Hr.out, grow_refl w _⟩
  case round =>
    obtain ⟨i, j, rfl, rfl, hi, hij, hj, hgk, h1, h2, hrow, hgr⟩ := hrel
    have H12 := hide (And.intro h1 h2); clear h1 h2
    have Hrow := hide hrow; clear hrow
    have Hgr := hide hgr; clear hgr
    by_cases hlt : i < j
    · obtain ⟨h, hh⟩ : ∃ h : Nat, ((i : Int) + (j : Int)) / 2 = (h : Int) := ⟨(i + j) / 2, by omega⟩
      have hih : i ≤ h := by omega
      have hhj : h < j := by omega
      obtain ⟨z, hz⟩ : ∃ z, L[h - a]? = some z := ⟨L[h - a]'(by have := Hm.out; omega), List.getElem?_eq_getElem _⟩
      have Hz := hide hz
      have hyl : (P ++ L ++ y :: S)[m]? = some y := get_mid _ _ y _ (by rw [List.length_append, Ha.out]; exact Hm.out)
      have hzl : (P ++ L ++ y :: S)[h]? = some z := by
        have hlL := (List.getElem?_eq_some_iff.1 hz).1
        rw [List.append_assoc, List.getElem?_append_right (by rw [Ha.out]; omega), Ha.out, List.getElem?_append_left hlL]
        exact hz
      clear hz
      obtain ⟨x0, x1, x2, x3, x4, x5, x6, x7, x8⟩ := Hrow.out.at_ hyl
      obtain ⟨y0, y1, y2, y3, y4, y5, y6, y7, y8⟩ := Hrow.out.at_ hzl
      clear hyl hzl
      have X0 := Wd.cell x0; have X1 := Wd.cell x1; have X2 := Wd.cell x2; have X3 := Wd.cell x3; have X4 := Wd.cell x4; have X5 := Wd.cell x5; have X6 := Wd.cell x6; have X7 := Wd.cell x7; have X8 := Wd.cell x8
      have Y0 := Wd.cell y0; have Y1 := Wd.cell y1; have Y2 := Wd.cell y2; have Y3 := Wd.cell y3; have Y4 := Wd.cell y4; have Y5 := Wd.cell y5; have Y6 := Wd.cell y6; have Y7 := Wd.cell y7; have Y8 := Wd.cell y8
      have hlo := ordI_lt y z
      have q1 : (m : Int) < (n : Int) := by omega
      have q2 : (h : Int) < (n : Int) := by omega
      have q3 : (0 : Int) ≤ (m : Int) := by omega
      have q4 : (0 : Int) ≤ (h : Int) := by omega
      rcases Bool.eq_false_or_eq_true (ltC y z) with hyx | hyx
      all_goals
        rw [hyx] at hlo
        have Hyx := hide hyx; clear hyx
        go_wp2
        refine wp_region_grew (by kernel_rfl) (by kernel_rfl) ?_
        repeat (go_big_quiet_step (first | (go_at_call 49; exact grew_of (order1_any y z _))))
        refine wpQuiet_nil ?_
        intro w5 hw5
        obtain ⟨⟨w5, hb5⟩, rfl⟩ := hw5
        clear X0 X1 X2 X3 X4 X5 X6 X7 X8 Y0 Y1 Y2 Y3 Y4 Y5 Y6 Y7 Y8 x0 x1 x2 x3 x4 x5 x6 x7 x8 y0 y1 y2 y3 y4 y5 y6 y7 y8
        have Hr5 := hide (Hrow.out.below hb5)
        have Hg5 := hide (Hgr.out.trans (grown_below hb5 (some g)))
        clear hb5
        go_wp2
      · go_roundg (h - i)
        case measure => omega
        case rel => exact ⟨i, h, rfl, rfl, hi, by omega, by omega, by omega, H12.out.1, drop_gt HsL.out Hz.out Hyx.out, Hr5.out, Hg5.out⟩
      · go_roundg (j - (h + 1))
        case measure => omega
        case rel => exact ⟨h + 1, j, val_i64 (by omega), rfl, by omega, by omega, hj, by omega, by rw [show h + 1 - a = h - a + 1 by omega]; exact take_le HsL.out Hz.out Hyx.out, H12.out.2, Hr5.out, Hg5.out⟩
    · obtain rfl : i = j := by omega
      have hres : putF L y = L.take (i - a) ++ y :: L.drop (i - a) := one_right H12.out.1 H12.out.2
      obtain ⟨p, hp⟩ : ∃ p, p = i - a := ⟨_, rfl⟩
      rw [← hp] at hres
      have hLs : L.take p ++ L.drop p = L := List.take_append_drop p L
      have hlp : (L.take p).length = p := by rw [List.length_take]; have := Hm.out; omega
      have hlq : (L.drop p).length = m - i := by rw [List.length_drop]; have := Hm.out; omega
      obtain ⟨L1, hL1⟩ : ∃ l, l = L.take p := ⟨_, rfl⟩
      obtain ⟨L2, hL2⟩ : ∃ l, l = L.drop p := ⟨_, rfl⟩
      rw [← hL1, ← hL2] at hres hLs
      rw [← hL1] at hlp
      rw [← hL2] at hlq
      have Hres := hide (And.intro hres (And.intro hLs (And.intro hlp (And.intro hlq hp))))
      clear hres hLs hlp hL1 hL2 H12 hp hlq
      go_wp2
      go_loopg [17] n (fun gk sk wr => ∃ (q k : Nat), sk = .int .i64 (k : Int) ∧ k = i + q ∧ q ≤ m - i ∧ q ≤ gk ∧ Row wr g cap (P ++ L1 ++ L2.take q ++ y :: (L2.drop q ++ S)) ∧ w.grownBy wr (some g))
      case atStart => exact ⟨m - i, m, rfl, by omega, by omega, by omega, by have h := Hrow.out; rw [← Hres.out.2.1] at h; rw [List.take_of_length_le (by rw [Hres.out.2.2.2.1]; exact Nat.le_refl _), List.drop_eq_nil_of_le (by rw [Hres.out.2.2.2.1]; exact Nat.le_refl _)]; simpa using h, Hgr.out⟩
      case round =>
        obtain ⟨q, k, rfl, hk, hq, hgk, hrow, hgr⟩ := hrel
        clear Hrow Hgr
        have Hrow := hide hrow; clear hrow
        have Hgr := hide hgr; clear hgr
        have Hk := hide hk; clear hk
        cases q with
        | succ q =>
          obtain ⟨z, hz⟩ : ∃ z, L2[q]? = some z := ⟨L2[q]'(by rw [Hres.out.2.2.2.1]; omega), List.getElem?_eq_getElem _⟩
          have hd : L2.drop q = z :: L2.drop (q + 1) := by
            obtain ⟨h1, rfl⟩ := List.getElem?_eq_some_iff.1 hz
            exact List.drop_eq_getElem_cons h1
          have ht : L2.take (q + 1) = L2.take q ++ [z] := take_snoc hz
          obtain ⟨k', rfl⟩ : ∃ k', k = k' + 1 := ⟨k - 1, by have := Hk.out; omega⟩
          have hrow2 : Row wr g cap (P ++ L1 ++ L2.take q ++ z :: y :: (L2.drop (q + 1) ++ S)) := by
            have h := Hrow.out
            rw [ht] at h
            simpa using h
          have hlq : (P ++ L1 ++ L2.take q).length = k' := by rw [List.length_append, List.length_append, Ha.out, List.length_take, Hres.out.2.2.1, Hres.out.2.2.2.1]; have := Hk.out; have := Hres.out.2.2.2.2; omega
          have hzl : (P ++ L1 ++ L2.take q ++ z :: y :: (L2.drop (q + 1) ++ S))[k']? = some z := get_mid _ _ z _ hlq
          have e : P ++ L1 ++ L2.take q ++ z :: y :: (L2.drop (q + 1) ++ S) = (P ++ L1 ++ L2.take q ++ [z]) ++ y :: (L2.drop (q + 1) ++ S) := by simp
          have hyl : (P ++ L1 ++ L2.take q ++ z :: y :: (L2.drop (q + 1) ++ S))[k' + 1]? = some y := by
            rw [e]
            exact get_mid _ _ y _ (by rw [List.length_append, hlq]; rfl)
          have hset : ((P ++ L1 ++ L2.take q ++ z :: y :: (L2.drop (q + 1) ++ S)).set (k' + 1) z).set k' y = P ++ L1 ++ L2.take q ++ y :: (L2.drop q ++ S) := by
            rw [e, set_mid _ _ y z (k' + 1) (by rw [List.length_append, hlq]; rfl)]
            have e2 : (P ++ L1 ++ L2.take q ++ [z]) ++ z :: (L2.drop (q + 1) ++ S) = P ++ L1 ++ L2.take q ++ z :: (z :: (L2.drop (q + 1) ++ S)) := by simp
            rw [e2, set_mid _ _ z y k' hlq, hd]
            simp
          have Hset := hide hset
          have Hlt := hide (And.intro (List.getElem?_eq_some_iff.1 hzl).1 (List.getElem?_eq_some_iff.1 hyl).1)
          obtain ⟨x0, x1, x2, x3, x4, x5, x6, x7, x8⟩ := hrow2.at_ hyl
          obtain ⟨y0, y1, y2, y3, y4, y5, y6, y7, y8⟩ := hrow2.at_ hzl
          have hf := hrow2.frozen
          have Hrow2 := hide hrow2
          have hki : (i : Int) < (k' : Int) + 1 := by have := Hk.out; omega
          have hkn : (k' : Int) + 1 < (n : Int) := by have := Hk.out; omega
          have e4 : (0 : Int) ≤ (k' : Int) := by omega
          clear hset hzl hyl hrow2 hd ht hlq hz e
          go_wp2
          go_region
          go_wp2
          go_roundg q
          case measure => omega
          case rel =>
            refine ⟨q, k', by go_num, by have := Hk.out; omega, by omega, by omega, ?_, swap_grown2 Hgr.out⟩
            have h := swap_row2 (x := y) (y := z) Hrow2.out Hlt.out.2 Hlt.out.1
            rw [Hset.out] at h
            exact h
        | zero =>
          have hki : ¬ (i : Int) < (k : Int) := by have := Hk.out; omega
          have hfin : Row wr g cap (P ++ putF L y ++ S) := by
            have h := Hrow.out
            rw [Hres.out.1]
            simpa using h
          have Hfin := hide hfin; clear hfin
          go_wp2
          go_end0
          exact ⟨rfl, by have h := Hfin.out; rwa [List.append_assoc] at h, Hgr.out⟩
end Go.Proofs.Ythpbjceajnaokaa
