/- The library's exchange of two runs of claims, and its rotation. Condition: rows of at most 100000 claims. -/
import Derived.Test.YthpbjceajnaokaaSym
namespace Go.Proofs.Ythpbjceajnaokaa
open Go.RowKit

theorem swap_grown2 {w w0 : World} {g p q : Nat} {x y : Cl} (h : w0.grownBy w (some g)) : w0.grownBy (((((((((((((((((((w.setCell ⟨g, p * 9, none⟩ (.int .i64 y.firm)).setCell ⟨g, p * 9 + 1, none⟩ (.int .i64 y.seq)).setCell ⟨g, p * 9 + 2, none⟩ (.int .i64 y.time)).setCell ⟨g, p * 9 + 3, none⟩ (.int .i64 y.kind)).setCell ⟨g, p * 9 + 4, none⟩ (.int .i64 y.a)).setCell ⟨g, p * 9 + 5, none⟩ (.int .u64 y.ref)).setCell ⟨g, p * 9 + 6, none⟩ (.int .u64 y.aux)).setCell ⟨g, p * 9 + 7, none⟩ (.int .u64 y.prev)).setCell ⟨g, p * 9 + 8, none⟩ (.int .u64 y.tag)).setCell ⟨g, q * 9, none⟩ (.int .i64 x.firm)).setCell ⟨g, q * 9 + 1, none⟩ (.int .i64 x.seq)).setCell ⟨g, q * 9 + 2, none⟩ (.int .i64 x.time)).setCell ⟨g, q * 9 + 3, none⟩ (.int .i64 x.kind)).setCell ⟨g, q * 9 + 4, none⟩ (.int .i64 x.a)).setCell ⟨g, q * 9 + 5, none⟩ (.int .u64 x.ref)).setCell ⟨g, q * 9 + 6, none⟩ (.int .u64 x.aux)).setCell ⟨g, q * 9 + 7, none⟩ (.int .u64 x.prev)).setCell ⟨g, q * 9 + 8, none⟩ (.int .u64 x.tag))).drew (some g) := by
  rw [chain9 w g (p * 9) y, chain9 _ g (q * 9) x]
  exact grown_drew ((h.trans (grown_setCells g _ _ _)).trans (grown_setCells g _ _ _))
theorem swap_row2 {w : World} {g cap p q : Nat} {zs : List Cl} {x y : Cl} (h : Row w g cap zs) (hp : p < zs.length) (hq : q < zs.length) : Row (((((((((((((((((((w.setCell ⟨g, p * 9, none⟩ (.int .i64 y.firm)).setCell ⟨g, p * 9 + 1, none⟩ (.int .i64 y.seq)).setCell ⟨g, p * 9 + 2, none⟩ (.int .i64 y.time)).setCell ⟨g, p * 9 + 3, none⟩ (.int .i64 y.kind)).setCell ⟨g, p * 9 + 4, none⟩ (.int .i64 y.a)).setCell ⟨g, p * 9 + 5, none⟩ (.int .u64 y.ref)).setCell ⟨g, p * 9 + 6, none⟩ (.int .u64 y.aux)).setCell ⟨g, p * 9 + 7, none⟩ (.int .u64 y.prev)).setCell ⟨g, p * 9 + 8, none⟩ (.int .u64 y.tag)).setCell ⟨g, q * 9, none⟩ (.int .i64 x.firm)).setCell ⟨g, q * 9 + 1, none⟩ (.int .i64 x.seq)).setCell ⟨g, q * 9 + 2, none⟩ (.int .i64 x.time)).setCell ⟨g, q * 9 + 3, none⟩ (.int .i64 x.kind)).setCell ⟨g, q * 9 + 4, none⟩ (.int .i64 x.a)).setCell ⟨g, q * 9 + 5, none⟩ (.int .u64 x.ref)).setCell ⟨g, q * 9 + 6, none⟩ (.int .u64 x.aux)).setCell ⟨g, q * 9 + 7, none⟩ (.int .u64 x.prev)).setCell ⟨g, q * 9 + 8, none⟩ (.int .u64 x.tag))).drew g cap ((zs.set p y).set q x) := by
  rw [chain9 w g (p * 9) y, chain9 _ g (q * 9) x]
  exact ((h.set hp y).set (i := q) (by rw [List.length_set]; omega) x).drew

/-- One exchange in the midst of two runs. -/
theorem swap_step (P X1 X2 M Y1 Y2 S : List Cl) (x y : Cl) (a b : Nat) (ha : P.length + Y1.length = a) (hb : P.length + Y1.length + 1 + X2.length + M.length + X1.length = b) :
    ((P ++ Y1 ++ x :: (X2 ++ M ++ X1 ++ y :: (Y2 ++ S))).set a y).set b x = P ++ (Y1 ++ [y]) ++ (X2 ++ M ++ (X1 ++ [x]) ++ (Y2 ++ S)) := by
  rw [set_mid (P ++ Y1) _ x y a (by rw [List.length_append]; exact ha)]
  have e : P ++ Y1 ++ y :: (X2 ++ M ++ X1 ++ y :: (Y2 ++ S)) = (P ++ Y1 ++ y :: (X2 ++ M ++ X1)) ++ y :: (Y2 ++ S) := by simp
  rw [e, set_mid _ _ y x b (by simp only [List.length_append, List.length_cons]; omega)]
  simp

set_option maxRecDepth 100000 in
set_option maxHeartbeats 2000000 in
theorem swaprange_any (g n cap : Nat) (P X M Y S : List Cl) (w : World) (hr : Row w g cap (P ++ X ++ M ++ Y ++ S)) (hn : (P ++ X ++ M ++ Y ++ S).length = n) (hn0 : n ≤ 100000) (a b k : Nat) (ha : P.length = a) (hb : (P ++ X ++ M).length = b) (hk : X.length = k) (hk2 : Y.length = k) :
    Calls Try.prog 71 #[.slice (some ⟨g, 0, none⟩) n cap, .int .i64 a, .int .i64 b, .int .i64 k, .func (.func 49) #[] #[]] w (NoRes w g cap (P ++ Y ++ M ++ X ++ S)) := by
  have hbk : b + k ≤ n := by rw [← hn, ← hb, ← hk2]; simp; omega
  have hab : a + k ≤ b := by rw [← ha, ← hb, ← hk, List.length_append, List.length_append]; omega
  have Hn := hide hn
  have Ha := hide ha
  have Hb := hide hb
  have Hk := hide (And.intro hk hk2)
  have Hr := hide hr
  clear hn ha hb hr hk hk2
  go_enter Try.func71, Try.ntmps71
  go_wp2
  go_loopg [10] k (fun gk i wr => ∃ (q : Nat) (X1 X2 Y1 Y2 : List Cl), q ≤ k ∧ k - q ≤ gk ∧ i = .int .i64 (q : Int) ∧ X = X1 ++ X2 ∧ Y = Y1 ++ Y2 ∧ X1.length = q ∧ Y1.length = q ∧ Row wr g cap (P ++ Y1 ++ (X2 ++ M ++ X1 ++ (Y2 ++ S))) ∧ w.grownBy wr (some g))
  case atStart => exact ⟨0, [], X, [], Y, by omega, by omega, rfl, rfl, rfl, rfl, rfl, by have h := Hr.out; simpa using h, grow_refl w _⟩
  case round =>
    obtain ⟨q, X1, X2, Y1, Y2, hq1, hq2, rfl, hX, hY, hX1, hY1, hrow, hgr⟩ := hrel
    have Hrow := hide hrow; clear hrow
    have Hgr := hide hgr; clear hgr
    have HX := hide (And.intro (And.intro hX hY) (And.intro hX1 hY1)); clear hX hY hX1 hY1
    by_cases hlt : q < k
    · have l1 : X1.length + X2.length = k := by have := Hk.out.1; rw [HX.out.1.1, List.length_append] at this; exact this
      have l2 : Y1.length + Y2.length = k := by have := Hk.out.2; rw [HX.out.1.2, List.length_append] at this; exact this
      have l3 := HX.out.2.1
      have l4 := HX.out.2.2
      rcases X2 with _ | ⟨x, X2⟩
      · simp at l1; omega
      rcases Y2 with _ | ⟨y, Y2⟩
      · simp at l2; omega
      have hlb := Hb.out
      rw [List.length_append, List.length_append, Hk.out.1, Ha.out] at hlb
      have hrow2 : Row wr g cap (P ++ Y1 ++ x :: (X2 ++ M ++ X1 ++ y :: (Y2 ++ S))) := by
        have h := Hrow.out; simpa using h
      have hs := swap_step P X1 X2 M Y1 Y2 S x y (a + q) (b + q) (by rw [Ha.out, l4]) (by rw [Ha.out, l4, l3]; simp only [List.length_cons] at l1; omega)
      have hxl : (P ++ Y1 ++ x :: (X2 ++ M ++ X1 ++ y :: (Y2 ++ S)))[a + q]? = some x := get_mid (P ++ Y1) _ x _ (by rw [List.length_append, Ha.out, l4])
      have hyl : (P ++ Y1 ++ x :: (X2 ++ M ++ X1 ++ y :: (Y2 ++ S)))[b + q]? = some y := by
        have e : P ++ Y1 ++ x :: (X2 ++ M ++ X1 ++ y :: (Y2 ++ S)) = (P ++ Y1 ++ x :: (X2 ++ M ++ X1)) ++ y :: (Y2 ++ S) := by simp
        rw [e]
        exact get_mid _ _ y _ (by simp only [List.length_append, List.length_cons]; rw [Ha.out, l4, l3]; simp only [List.length_cons] at l1; omega)
      have Hs := hide hs
      have Hlt := hide (And.intro (List.getElem?_eq_some_iff.1 hxl).1 (List.getElem?_eq_some_iff.1 hyl).1)
      obtain ⟨x0, x1, x2, x3, x4, x5, x6, x7, x8⟩ := hrow2.at_ hxl
      obtain ⟨y0, y1, y2, y3, y4, y5, y6, y7, y8⟩ := hrow2.at_ hyl
      have hf := hrow2.frozen
      have Hrow2 := hide hrow2
      clear hs hxl hyl hrow2 l1 l2 l3 l4 hlb
      obtain ⟨p1, hp1⟩ : ∃ p, p = a + q := ⟨_, rfl⟩
      obtain ⟨p2, hp2⟩ : ∃ p, p = b + q := ⟨_, rfl⟩
      have e1 : IntKind.i64.wrap ((a : Int) + (q : Int)) = (p1 : Int) := by rw [hp1, IntWalk.i64_in _ (by omega)]; omega
      have e2 : IntKind.i64.wrap ((b : Int) + (q : Int)) = (p2 : Int) := by rw [hp2, IntWalk.i64_in _ (by omega)]; omega
      have e3 : (p1 : Int) < (n : Int) := by omega
      have e4 : (p2 : Int) < (n : Int) := by omega
      have e5 : (0 : Int) ≤ (p1 : Int) := by omega
      have e7 : p1 < p2 := by omega
      have e8 : ¬ p1 = p2 := by omega
      have e6 : (0 : Int) ≤ (p2 : Int) := by omega
      rw [← hp1] at x0 x1 x2 x3 x4 x5 x6 x7 x8 Hs Hlt
      rw [← hp2] at y0 y1 y2 y3 y4 y5 y6 y7 y8 Hs Hlt
      have Hp := hide (And.intro hp1 hp2)
      clear hp1 hp2
      go_wp2
      go_region
      go_wp2
      go_roundg (k - (q + 1))
      case measure => omega
      case rel =>
        refine ⟨q + 1, X1 ++ [x], X2, Y1 ++ [y], Y2, by omega, by omega, by go_num, by rw [HX.out.1.1]; simp, by rw [HX.out.1.2]; simp, by rw [List.length_append, HX.out.2.1]; rfl, by rw [List.length_append, HX.out.2.2]; rfl, ?_, swap_grown2 Hgr.out⟩
        have h := swap_row2 (x := x) (y := y) Hrow2.out Hlt.out.1 Hlt.out.2
        rw [Hs.out] at h
        exact h
    · have hq3 : q = k := by omega
      have l1 : X1.length + X2.length = k := by have := Hk.out.1; rw [HX.out.1.1, List.length_append] at this; exact this
      have l2 : Y1.length + Y2.length = k := by have := Hk.out.2; rw [HX.out.1.2, List.length_append] at this; exact this
      have l3 := HX.out.2.1
      have l4 := HX.out.2.2
      have hX2 : X2 = [] := List.eq_nil_of_length_eq_zero (by omega)
      have hY2 : Y2 = [] := List.eq_nil_of_length_eq_zero (by omega)
      have hfin : Row wr g cap (P ++ Y ++ M ++ X ++ S) := by
        have h := Hrow.out
        rw [HX.out.1.1, HX.out.1.2, hX2, hY2]
        rw [hX2, hY2] at h
        simpa using h
      have Hfin := hide hfin
      clear hfin hX2 hY2 l1 l2 l3 l4 hq3
      go_wp2
      go_end0
      exact ⟨rfl, Hfin.out, Hgr.out⟩

theorem swaprange_int (g n cap : Nat) (P X M Y S : List Cl) (w : World) (hr : Row w g cap (P ++ X ++ M ++ Y ++ S)) (hn : (P ++ X ++ M ++ Y ++ S).length = n) (hn0 : n ≤ 100000) (ai bi ki : Int) (ha : ai = (P.length : Int)) (hb : bi = (P.length : Int) + (X.length : Int) + (M.length : Int)) (hk : ki = (X.length : Int)) (hk2 : Y.length = X.length) :
    Calls Try.prog 71 #[.slice (some ⟨g, 0, none⟩) n cap, .int .i64 ai, .int .i64 bi, .int .i64 ki, .func (.func 49) #[] #[]] w (NoRes w g cap (P ++ Y ++ M ++ X ++ S)) := by
  have h := swaprange_any g n cap P X M Y S w hr hn hn0 P.length (P ++ X ++ M).length X.length rfl rfl rfl hk2
  rw [ha, hb, hk]
  rw [List.length_append, List.length_append, Int.natCast_add, Int.natCast_add] at h
  exact h
theorem val_i64 {a b : Int} (h : a = b) : Value.int .i64 a = Value.int .i64 b := by rw [h]
theorem bool_not {b : Bool} (h : ¬ b = true) : b = false := by simpa using h

set_option maxRecDepth 100000 in
set_option maxHeartbeats 2000000 in
theorem rotate_any (g n cap : Nat) (P X Y S : List Cl) (w : World) (hr : Row w g cap (P ++ X ++ Y ++ S)) (hn : (P ++ X ++ Y ++ S).length = n) (hn0 : n ≤ 100000) (a m b : Nat) (ha : P.length = a) (hm : (P ++ X).length = m) (hb : (P ++ X ++ Y).length = b) (hx : 0 < X.length) (hy : 0 < Y.length) :
    Calls Try.prog 70 #[.slice (some ⟨g, 0, none⟩) n cap, .int .i64 a, .int .i64 m, .int .i64 b, .func (.func 49) #[] #[]] w (NoRes w g cap (P ++ Y ++ X ++ S)) := by
  have hmn : m ≤ n := by rw [← hn, ← hm]; simp only [List.length_append]; omega
  have hbn : b ≤ n := by rw [← hn, ← hb]; simp only [List.length_append]; omega
  have hxa : X.length = m - a := by rw [← ha, ← hm, List.length_append]; omega
  have hyb : Y.length = b - m := by rw [← hb, ← hm, List.length_append]; omega
  have ham : a < m := by omega
  have hmb : m < b := by omega
  have Hr := hide hr
  have Hxy := hide (And.intro hxa hyb)
  have Ha := hide ha
  have Hn := hide hn
  clear hn ha hm hb hr hx hy hxa hyb
  have e1 : IntKind.i64.wrap ((m : Int) - (a : Int)) = ((m - a : Nat) : Int) := by rw [IntWalk.i64_in _ (by omega)]; omega
  have e2 : IntKind.i64.wrap ((b : Int) - (m : Int)) = ((b - m : Nat) : Int) := by rw [IntWalk.i64_in _ (by omega)]; omega
  go_enter Try.func70, Try.ntmps70
  go_wp2
  clear e1 e2
  go_loopg [10, 11] n (fun gk si sj wr => ∃ (i j : Nat) (P' X' Y' S' : List Cl), si = .int .i64 (i : Int) ∧ sj = .int .i64 (j : Int) ∧ 0 < i ∧ 0 < j ∧ i + j ≤ gk ∧ i ≤ m ∧ m + j ≤ n ∧ X'.length = i ∧ Y'.length = j ∧ P'.length + i = m ∧ P' ++ Y' ++ X' ++ S' = P ++ Y ++ X ++ S ∧ Row wr g cap (P' ++ X' ++ Y' ++ S') ∧ w.grownBy wr (some g))
  case atStart => exact ⟨m - a, b - m, P, X, Y, S, rfl, rfl, by omega, by omega, by omega, by omega, by omega, Hxy.out.1, Hxy.out.2, by rw [Ha.out]; omega, rfl, Hr.out, grow_refl w _⟩
  case round =>
    obtain ⟨i, j, P', X', Y', S', rfl, rfl, hi, hj, hij, him, hjn, hX, hY, hP, hT, hrow, hgr⟩ := hrel
    have HX := hide (And.intro hX (And.intro hY (And.intro hP hT))); clear hX hY hP hT
    have Hrow := hide hrow; clear hrow
    have Hgr := hide hgr; clear hgr
    have Hlen := hide (show (P' ++ X' ++ Y' ++ S').length = n by
      have h := congrArg List.length HX.out.2.2.2
      have h2 := Hn.out
      simp only [List.length_append] at h h2 ⊢
      omega)
    by_cases hne : i = j
    · subst hne
      have hq : ((i : Int) != (i : Int)) = false := by simp
      go_wp2_with fail
      refine (swaprange_int g n cap P' X' [] Y' S' _ (by have h := Hrow.out; simpa using h) (by have h := Hlen.out; simpa using h) hn0 _ _ _ (by have := HX.out.2.2.1; omega) (by have := HX.out.2.2.1; have := HX.out.1; simp only [List.length_nil]; omega) (by have := HX.out.1; omega) (by rw [HX.out.1, HX.out.2.1])).mono ?_
      rintro e w1 ⟨rfl, hr1, hg1⟩
      have Hr1 := hide hr1; clear hr1
      have Hg1 := hide hg1; clear hg1
      go_wp2
      go_end0
      exact ⟨rfl, by have h := Hr1.out; rw [List.append_nil, HX.out.2.2.2] at h; exact h, Hgr.out.trans Hg1.out⟩
    · have hq : ((i : Int) != (j : Int)) = true := by rw [bne_iff_ne]; omega
      rcases Nat.lt_or_ge j i with hlt | hge
      · have l1 : (X'.take j).length = j := by rw [List.length_take, HX.out.1]; omega
        have l2 : (X'.drop j).length = i - j := by rw [List.length_drop, HX.out.1]
        have Hl := hide (And.intro l1 l2); clear l1 l2
        have Hx := hide (List.take_append_drop j X')
        go_wp2_with fail
        refine (swaprange_int g n cap P' (X'.take j) (X'.drop j) Y' S' _ (by have h := Hrow.out; rw [← Hx.out] at h; simpa using h) (by have h := Hlen.out; rw [← Hx.out] at h; simpa using h) hn0 _ _ _ (by have := HX.out.2.2.1; omega) (by have := HX.out.2.2.1; rw [Hl.out.1, Hl.out.2]; omega) (by rw [Hl.out.1]) (by rw [Hl.out.1, HX.out.2.1])).mono ?_
        rintro e w1 ⟨rfl, hr1, hg1⟩
        have Hr1 := hide hr1; clear hr1
        have Hg1 := hide hg1; clear hg1
        go_wp2
        go_roundg (i - j + j)
        case measure => omega
        case rel =>
          refine ⟨i - j, j, P' ++ Y', X'.drop j, X'.take j, S', val_i64 (by omega), rfl, by omega, hj, by omega, by omega, by omega, Hl.out.2, Hl.out.1, by rw [List.length_append, HX.out.2.1]; have := HX.out.2.2.1; omega, ?_, ?_, Hgr.out.trans Hg1.out⟩
          · rw [← HX.out.2.2.2]
            conv => rhs; rw [← Hx.out]
            simp
          · have h := Hr1.out
            simpa using h
      · have l1 : (Y'.take (j - i)).length = j - i := by rw [List.length_take, HX.out.2.1]; omega
        have l2 : (Y'.drop (j - i)).length = i := by rw [List.length_drop, HX.out.2.1]; omega
        have Hl := hide (And.intro l1 l2); clear l1 l2
        have Hy := hide (List.take_append_drop (j - i) Y')
        go_wp2_with fail
        refine (swaprange_int g n cap P' X' (Y'.take (j - i)) (Y'.drop (j - i)) S' _ (by have h := Hrow.out; rw [← Hy.out] at h; simpa using h) (by have h := Hlen.out; rw [← Hy.out] at h; simpa using h) hn0 _ _ _ (by have := HX.out.2.2.1; omega) (by have := HX.out.2.2.1; rw [Hl.out.1, HX.out.1]; omega) (by rw [HX.out.1]) (by rw [Hl.out.2, HX.out.1])).mono ?_
        rintro e w1 ⟨rfl, hr1, hg1⟩
        have Hr1 := hide hr1; clear hr1
        have Hg1 := hide hg1; clear hg1
        go_wp2
        go_roundg (i + (j - i))
        case measure => omega
        case rel =>
          refine ⟨i, j - i, P', Y'.drop (j - i), Y'.take (j - i), X' ++ S', rfl, val_i64 (by omega), hi, by omega, by omega, by omega, by omega, Hl.out.2, Hl.out.1, HX.out.2.2.1, ?_, ?_, Hgr.out.trans Hg1.out⟩
          · rw [← HX.out.2.2.2]
            conv => rhs; rw [← Hy.out]
            simp
          · have h := Hr1.out
            simpa using h
end Go.Proofs.Ythpbjceajnaokaa
