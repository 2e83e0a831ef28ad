/- The library's insertion sort over a row of claims: each claim goes ahead of those that it stands ahead of. Condition: rows of at most 100000 claims. -/
import Derived.Test.YthpbjceajnaokaaRow
namespace Go.Proofs.Ythpbjceajnaokaa
open Go.RowKit

def putAt (l : List Cl) (x : Cl) (j : Nat) : List Cl := l.take j ++ x :: l.drop j
def pos (l : List Cl) (x : Cl) : Nat → Nat
  | 0 => 0
  | j + 1 => if ltC x (l[j]?.getD zeroC) then pos l x j else j + 1
/-- A claim put behind all that it does not stand ahead of. -/
def putF (l : List Cl) (x : Cl) : List Cl := putAt l x (pos l x l.length)
def insF (xs : List Cl) : List Cl := xs.foldl putF []
theorem putAt_length (l : List Cl) (x : Cl) (j : Nat) : (putAt l x j).length = l.length + 1 := by
  simp [putAt]; omega
theorem putF_length (l : List Cl) (x : Cl) : (putF l x).length = l.length + 1 := putAt_length _ _ _
theorem foldl_putF_length (xs : List Cl) : ∀ l : List Cl, (xs.foldl putF l).length = l.length + xs.length := by
  induction xs with
  | nil => intro l; rfl
  | cons x xs ih => intro l; rw [List.foldl_cons, ih, putF_length]; simp; omega
theorem insF_length (xs : List Cl) : (insF xs).length = xs.length := by rw [insF, foldl_putF_length]; simp
theorem insF_snoc (xs : List Cl) (x : Cl) : insF (xs ++ [x]) = putF (insF xs) x := by simp [insF, List.foldl_append]
theorem putF_nil (x : Cl) : putF [] x = [x] := rfl
theorem insF_take_one (xs : List Cl) : insF (xs.take 1) = xs.take 1 := by
  cases xs with
  | nil => rfl
  | cons x xs => simp [insF, putF_nil]
theorem putAt_end (l : List Cl) (x : Cl) : putAt l x l.length = l ++ [x] := by simp [putAt]
theorem putAt_x (pre l rest : List Cl) (x : Cl) (t : Nat) (ht : t ≤ l.length) : (pre ++ putAt l x t ++ rest)[pre.length + t]? = some x := by
  have h1 : (l.take t).length = t := by rw [List.length_take]; omega
  rw [List.append_assoc, List.getElem?_append_right (by omega), show pre.length + t - pre.length = t by omega, putAt, List.append_assoc, List.getElem?_append_right (by omega), h1]
  simp
theorem putAt_y (pre l rest : List Cl) (x : Cl) (t : Nat) (ht : t < l.length) : (pre ++ putAt l x (t + 1) ++ rest)[pre.length + t]? = l[t]? := by
  rw [List.append_assoc, List.getElem?_append_right (by omega), show pre.length + t - pre.length = t by omega, putAt, List.append_assoc, List.getElem?_append_left (by rw [List.length_take]; omega), List.getElem?_take]
  simp
theorem swap2 (P R : List Cl) (x y : Cl) : ((P ++ y :: x :: R).set (P.length + 1) y).set P.length x = P ++ x :: y :: R := by
  simp
theorem putAt_swap (pre l rest : List Cl) (x y : Cl) (t : Nat) (hy : l[t]? = some y) : ((pre ++ putAt l x (t + 1) ++ rest).set (pre.length + t + 1) y).set (pre.length + t) x = pre ++ putAt l x t ++ rest := by
  have ht : t < l.length := (List.getElem?_eq_some_iff.1 hy).1
  have hyv : l[t] = y := (List.getElem?_eq_some_iff.1 hy).2
  have e1 : pre ++ putAt l x (t + 1) ++ rest = (pre ++ l.take t) ++ y :: x :: (l.drop (t + 1) ++ rest) := by
    rw [putAt, List.take_succ_eq_append_getElem ht, hyv]; simp
  have e2 : pre ++ putAt l x t ++ rest = (pre ++ l.take t) ++ x :: y :: (l.drop (t + 1) ++ rest) := by
    rw [putAt, List.drop_eq_getElem_cons ht, hyv]; simp
  have h1 : (pre ++ l.take t).length = pre.length + t := by rw [List.length_append, List.length_take]; omega
  rw [e1, e2, ← h1]
  exact swap2 _ _ x y

theorem step_done {w : World} {g cap m t : Nat} {pre seg post L : List Cl} {x : Cl} (hx : seg[m]? = some x) (hL : L = insF (seg.take m)) (hLl : L.length = m) (hpos : pos L x t = pos L x m) (ht : pos L x t = t)
    (hrow : Row w g cap (pre ++ putAt L x t ++ (seg.drop (m + 1) ++ post))) : Row w g cap (pre ++ insF (seg.take (m + 1)) ++ (seg.drop (m + 1) ++ post)) := by
  have h1 : insF (seg.take (m + 1)) = putAt L x t := by
    rw [take_snoc hx, insF_snoc, ← hL, putF, hLl, ← hpos, ht]
  rw [h1]; exact hrow
def NoRes (w : World) (g cap : Nat) (ys : List Cl) (e : Ending) (w' : World) : Prop := e = .returned (.tuple #[]) ∧ Row w' g cap ys ∧ w.grownBy w' (some g)

set_option maxHeartbeats 400000 in
theorem insertion_none (A : Option Addr) (n cap : Nat) (w : World) :
    Calls Try.prog 67 #[.slice A n cap, .int .i64 0, .int .i64 0, .func (.func 49) #[] #[]] w fun e w' => e = .returned (.tuple #[]) ∧ w = w' := by
  go_enter Try.func67, Try.ntmps67
  go_wp2
  go_loop [8] (fun i => i = .int .i64 1) (fun _ => 0)
  case atStart => rfl
  case round =>
    subst hrel
    go_wp2
    go_end0
    exact ⟨rfl, rfl⟩

theorem grown_below {w w' : World} (h : Below w.heap.size w w') (row : Option Nat) : w.grownBy w' row := ⟨h.os, h.tape, h.output, h.size, fun k hk _ => h.block k hk⟩

set_option maxRecDepth 100000 in
set_option maxHeartbeats 2000000 in
theorem insertion_any (g n cap : Nat) (pre seg post : List Cl) (w : World) (hr : Row w g cap (pre ++ seg ++ post)) (hn : (pre ++ seg ++ post).length = n) (hn0 : n ≤ 100000) (a b : Nat) (ha : pre.length = a) (hb : (pre ++ seg).length = b) :
    Calls Try.prog 67 #[.slice (some ⟨g, 0, none⟩) n cap, .int .i64 a, .int .i64 b, .func (.func 49) #[] #[]] w (NoRes w g cap (pre ++ insF seg ++ post)) := by
  have Hn := hide hn
  have Ha := hide ha
  have Hb := hide hb
  have hbn : b ≤ n := by rw [← hn, ← hb]; simp
  have hab : a ≤ b := by rw [← ha, ← hb]; simp
  have Hr := hide hr
  clear hn ha hb hr
  go_enter Try.func67, Try.ntmps67
  go_wp2
  go_loopg [8] (b - a) (fun gk i wr => ∃ m : Nat, 1 ≤ m ∧ m ≤ b - a + 1 ∧ b - a - m ≤ gk ∧ i = .int .i64 ((a + m : Nat) : Int) ∧ Row wr g cap (pre ++ insF (seg.take m) ++ (seg.drop m ++ post)) ∧ w.grownBy wr (some g))
  case atStart => exact ⟨1, by omega, by omega, by omega, by go_num, by rw [insF_take_one]; rw [List.append_assoc, ← List.append_assoc (seg.take 1), List.take_append_drop, ← List.append_assoc]; exact Hr.out, grow_refl w _⟩
  case round =>
    obtain ⟨m, hm1, hm2, hmg, rfl, hrow, hgr⟩ := hrel
    have Hrow := hide hrow; clear hrow
    have Hgr := hide hgr; clear hgr
    have hsl : seg.length = b - a := by have := Hb.out; have := Ha.out; simp at *; omega
    have Hsl := hide hsl; clear hsl
    by_cases hlt : a + m < b
    · obtain ⟨x, hx⟩ : ∃ x, seg[m]? = some x := ⟨seg[m]'(by rw [Hsl.out]; omega), List.getElem?_eq_getElem _⟩
      have hLl : (insF (seg.take m)).length = m := by rw [insF_length, List.length_take, Hsl.out]; omega
      have hrow2 : Row wr g cap (pre ++ putAt (insF (seg.take m)) x m ++ (seg.drop (m + 1) ++ post)) := by
        have h1 := Hrow.out
        have hd : seg.drop m = x :: seg.drop (m + 1) := by
          rw [List.drop_eq_getElem_cons (by rw [Hsl.out]; omega)]
          rw [(List.getElem?_eq_some_iff.1 hx).2]
        rw [hd] at h1
        have h2 : putAt (insF (seg.take m)) x m = insF (seg.take m) ++ [x] := by
          have := putAt_end (insF (seg.take m)) x
          rwa [hLl] at this
        rw [h2]
        simpa using h1
      obtain ⟨L, hL⟩ : ∃ L, L = insF (seg.take m) := ⟨_, rfl⟩
      rw [← hL] at hLl hrow2
      have HL := hide hL; clear hL
      have Hx := hide hx; clear hx
      have HLl := hide hLl; clear hLl
      have Hrow2 := hide hrow2; clear hrow2
      generalize hii : a + m = ii at *
      have Hii := hide hii.symm; clear hii
      go_wp2
      go_loopg [9] m (fun gj j wi => ∃ t jj : Nat, jj = a + t ∧ t ≤ m ∧ t ≤ gj ∧ j = .int .i64 (jj : Int) ∧ pos L x t = pos L x m ∧ Row wi g cap (pre ++ putAt L x t ++ (seg.drop (m + 1) ++ post)) ∧ w.grownBy wi (some g))
      case atStart => exact ⟨m, ii, Hii.out, by omega, by omega, rfl, rfl, Hrow2.out, Hgr.out⟩
      case round =>
        obtain ⟨t, jj, hjj, ht, htg, rfl, hpos, hrowt, hgrt⟩ := hrel
        have Hpos := hide hpos; clear hpos
        have Hrowt := hide hrowt; clear hrowt
        have Hgrt := hide hgrt; clear hgrt
        cases t with
        | zero =>
          obtain rfl : jj = a := hjj
          go_wp2_with fail
          refine wp_region_grew (by kernel_rfl) (by kernel_rfl) ?_
          repeat (go_big_quiet_step (fail))
          refine wpQuiet_nil ?_
          intro w5 hw5
          obtain ⟨⟨w5, hb5⟩, rfl⟩ := hw5
          have Hb5 := hide hb5; clear hb5
          have hr5 := Hrowt.out.below Hb5.out
          have hg5 := Hgrt.out.trans (grown_below Hb5.out (some g))
          have Hr5 := hide hr5; clear hr5
          have Hg5 := hide hg5; clear hg5
          go_wp2
          go_roundg (b - jj - (m + 1))
          case measure => have := Hii.out; omega
          case rel => exact ⟨m + 1, by omega, by have := Hii.out; omega, by omega, by have := Hii.out; go_num, step_done Hx.out HL.out HLl.out Hpos.out rfl Hr5.out, Hg5.out⟩
        | succ t =>
          obtain ⟨q, rfl⟩ : ∃ q, jj = q + 1 := ⟨a + t, by omega⟩
          obtain ⟨y, hy⟩ : ∃ y, L[t]? = some y := ⟨L[t]'(by rw [HLl.out]; omega), List.getElem?_eq_getElem _⟩
          have hq : q = a + t := by omega
          have q1 : IsCl wr g ((q + 1) * 9) x := Hrowt.out.at_ (by have h := putAt_x pre L (seg.drop (m + 1) ++ post) x (t + 1) (by rw [HLl.out]; exact ht); rw [Ha.out, ← hjj] at h; exact h)
          have q2 : IsCl wr g (q * 9) y := Hrowt.out.at_ (by have h := putAt_y pre L (seg.drop (m + 1) ++ post) x t (by rw [HLl.out]; omega); rw [Ha.out, ← hq, hy] at h; exact h)
          obtain ⟨x0, x1, x2, x3, x4, x5, x6, x7, x8⟩ := q1
          obtain ⟨y0, y1, y2, y3, y4, y5, y6, y7, y8⟩ := q2
          have X0 := Wd.cell x0; have X1 := Wd.cell x1; have X2 := Wd.cell x2; have X3 := Wd.cell x3; have X4 := Wd.cell x4; have X5 := Wd.cell x5; have X6 := Wd.cell x6; have X7 := Wd.cell x7; have X8 := Wd.cell x8
          have Y0 := Wd.cell y0; have Y1 := Wd.cell y1; have Y2 := Wd.cell y2; have Y3 := Wd.cell y3; have Y4 := Wd.cell y4; have Y5 := Wd.cell y5; have Y6 := Wd.cell y6; have Y7 := Wd.cell y7; have Y8 := Wd.cell y8
          have Hy := hide hy; clear hy
          have Hq := hide hq; clear hq
          have Hjj := hide hjj; clear hjj
          have hqa : (a : Int) < (q : Int) + 1 := by have := Hq.out; omega
          have hqn : (q : Int) + 1 < (n : Int) := by have := Hq.out; have := Hii.out; omega
          have hqd : decide ((a : Int) < (q : Int) + 1) = true := by simpa using hqa
          have hqd2 : decide (a < q + 1) = true := by simp; omega
          have hlo := ordI_lt x y
          rcases Bool.eq_false_or_eq_true (ltC x y) with hxy | hxy
          · rw [hxy] at hlo
            have Hxy := hide hxy; clear hxy
            go_wp2_with fail
            refine wp_region_grew (by kernel_rfl) (by kernel_rfl) ?_
            repeat (go_big_quiet_step (first | (go_at_call 49; exact grew_of (order1_any x y _))))
            refine wpQuiet_nil ?_
            intro w5 hw5
            obtain ⟨⟨w5, hb5⟩, rfl⟩ := hw5
            clear X0 X1 X2 X3 X4 X5 X6 X7 X8 Y0 Y1 Y2 Y3 Y4 Y5 Y6 Y7 Y8
            clear x0 x1 x2 x3 x4 x5 x6 x7 x8 y0 y1 y2 y3 y4 y5 y6 y7 y8
            have hr5 := Hrowt.out.below hb5
            have hg5 := Hgrt.out.trans (grown_below hb5 (some g))
            have p1 : IsCl w5 g ((q + 1) * 9) x := hr5.at_ (by have h := putAt_x pre L (seg.drop (m + 1) ++ post) x (t + 1) (by rw [HLl.out]; exact ht); rw [Ha.out, ← Hjj.out] at h; exact h)
            have p2 : IsCl w5 g (q * 9) y := hr5.at_ (by have h := putAt_y pre L (seg.drop (m + 1) ++ post) x t (by rw [HLl.out]; omega); rw [Ha.out, ← Hq.out, Hy.out] at h; exact h)
            obtain ⟨x0, x1, x2, x3, x4, x5, x6, x7, x8⟩ := p1
            obtain ⟨y0, y1, y2, y3, y4, y5, y6, y7, y8⟩ := p2
            have hf5 := hr5.frozen
            have Hr5 := hide hr5; clear hr5
            have Hg5 := hide hg5; clear hg5
            clear hb5
            go_upto_region 6 with (fail)
            go_region
            have hpos7 : pos L x t = pos L x m := by
              have h1 := Hpos.out
              rw [pos, Hy.out, Option.getD_some, Hxy.out, if_pos rfl] at h1
              exact h1
            have Hpos7 := hide hpos7; clear hpos7
            have Hlen7 : Hid (q + 1 < (pre ++ putAt L x (t + 1) ++ (seg.drop (m + 1) ++ post)).length) := by
              show q + 1 < _
              rw [List.length_append, List.length_append, putAt_length, Ha.out, HLl.out]; have := Hq.out; omega
            have Hlist7 : Hid (((pre ++ putAt L x (t + 1) ++ (seg.drop (m + 1) ++ post)).set (q + 1) y).set q x = pre ++ putAt L x t ++ (seg.drop (m + 1) ++ post)) := by
              have h2 := putAt_swap pre L (seg.drop (m + 1) ++ post) x y t Hy.out
              rw [Ha.out, ← Hq.out] at h2
              exact h2
            go_wp2
            go_roundg t
            case measure => omega
            case rel => exact ⟨t, q, Hq.out, by omega, Nat.le_refl _, rfl, Hpos7.out, by rw [← Hlist7.out]; exact swap_row Hr5.out Hlen7.out, swap_grown Hg5.out⟩
          · rw [hxy] at hlo
            have Hxy := hide hxy; clear hxy
            go_wp2_with fail
            refine wp_region_grew (by kernel_rfl) (by kernel_rfl) ?_
            repeat (go_big_quiet_step (first | (go_at_call 49; exact grew_of (order1_any x y _))))
            refine wpQuiet_nil ?_
            intro w5 hw5
            obtain ⟨⟨w5, hb5⟩, rfl⟩ := hw5
            clear X0 X1 X2 X3 X4 X5 X6 X7 X8 Y0 Y1 Y2 Y3 Y4 Y5 Y6 Y7 Y8 x0 x1 x2 x3 x4 x5 x6 x7 x8 y0 y1 y2 y3 y4 y5 y6 y7 y8
            have hr5 := Hrowt.out.below hb5
            have hg5 := Hgrt.out.trans (grown_below hb5 (some g))
            have Hr5 := hide hr5; clear hr5
            have Hg5 := hide hg5; clear hg5
            clear hb5
            go_wp2
            go_roundg (b - a - (m + 1))
            case measure => have := Hii.out; omega
            case rel => exact ⟨m + 1, by omega, by have := Hii.out; omega, by omega, by have := Hii.out; go_num, step_done Hx.out HL.out HLl.out Hpos.out (by rw [pos, Hy.out, Option.getD_some, Hxy.out, if_neg Bool.false_ne_true]) Hr5.out, Hg5.out⟩
    · have hfin : Row wr g cap (pre ++ insF seg ++ post) := by
        have h := Hrow.out
        rw [List.take_of_length_le (by rw [Hsl.out]; omega), List.drop_eq_nil_of_le (by rw [Hsl.out]; omega)] at h
        exact h
      have Hfin := hide hfin; clear hfin
      go_wp2
      go_end0
      exact ⟨rfl, Hfin.out, Hgr.out⟩
end Go.Proofs.Ythpbjceajnaokaa
