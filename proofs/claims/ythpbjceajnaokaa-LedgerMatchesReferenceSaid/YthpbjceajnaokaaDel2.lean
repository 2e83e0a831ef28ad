/- The library's DeleteFunc on claims. Condition: at most 100000 claims. -/
import Derived.Test.YthpbjceajnaokaaDel
namespace Go.Proofs.Ythpbjceajnaokaa
open Go.RowKit

def keepC (pr : Cl → Bool) (xs : List Cl) : List Cl := xs.filter fun c => !pr c
theorem keepC_none {pr : Cl → Bool} {xs : List Cl} (h : xs.any pr = false) : keepC pr xs = xs := by
  rw [keepC, List.filter_eq_self]
  intro c hc
  have := List.any_eq_false.1 h c hc
  simpa using this
theorem keepC_more {pr : Cl → Bool} {xs : List Cl} {k : Nat} {c : Cl} (hx : xs[k]? = some c) (b : Bool) (hb : pr c = b) : keepC pr (xs.take (k + 1)) = keepC pr (xs.take k) ++ (if b then [] else [c]) := by
  rw [take_snoc hx, keepC, List.filter_append]
  cases b <;> simp [hb, keepC]
def DelPost (g cap : Nat) (ys : List Cl) (w : World) (e : Ending) (w' : World) : Prop :=
  e = .returned (.slice (some ⟨g, 0, none⟩) ys.length cap) ∧ Row w' g cap ys ∧ w.grownBy w' (some g)

theorem mid_at (F mid D : List Cl) (j : Nat) (h : F.length + mid.length = j) (xs : List Cl) (hD : D = xs.drop j) (c : Cl) (hx : xs[j]? = some c) : (F ++ mid ++ D)[j]? = some c := by
  rw [List.getElem?_append_right (by rw [List.length_append]; omega), List.length_append, h, Nat.sub_self, hD, List.getElem?_drop]
  exact hx
theorem mid_set (F mid : List Cl) (xs : List Cl) (j : Nat) (hm : 0 < mid.length) (c : Cl) (hx : xs[j]? = some c) :
    (F ++ mid ++ xs.drop j).set F.length c = (F ++ [c]) ++ (mid.tail ++ [c]) ++ xs.drop (j + 1) := by
  have hj := (List.getElem?_eq_some_iff.1 hx).1
  rw [List.drop_eq_getElem_cons hj, (List.getElem?_eq_some_iff.1 hx).2]
  cases mid with
  | nil => simp at hm
  | cons m mid => simp
theorem mid_on (F mid : List Cl) (xs : List Cl) (j : Nat) (c : Cl) (hx : xs[j]? = some c) :
    F ++ mid ++ xs.drop j = F ++ (mid ++ [c]) ++ xs.drop (j + 1) := by
  have hj := (List.getElem?_eq_some_iff.1 hx).1
  rw [List.drop_eq_getElem_cons hj, (List.getElem?_eq_some_iff.1 hx).2]
  simp
theorem PredC.later {w w1 : World} {g : Nat} {a1 a2 a3 : Value} {pr : Cl → Bool} {xs : List Cl} (h : PredC w g a1 a2 a3 pr xs) (hg : w.grownBy w1 (some g)) : PredC w1 g a1 a2 a3 pr xs :=
  fun W hW c hc => h W (hg.trans hW) c hc

set_option maxRecDepth 100000 in
set_option maxHeartbeats 2000000 in
theorem delete_none (A : Option Addr) (cap : Nat) (a1 a2 a3 : Value) (w : World) :
    Calls Try.prog 53 #[.slice A 0 cap, .func (.func 55) #[] #[a1, a2, a3]] w fun e w' => e = .returned (.slice A 0 cap) ∧ Below w.heap.size w w' := by
  have H := hide (index_any A 0 cap 0 a1 a2 a3 (fun _ => false) [] w ⟨rfl, fun h => absurd h (by omega)⟩ (by omega) (fun W _ c hc => by cases hc))
  go_enter Try.func53, Try.ntmps53
  go_wp2_with fail
  refine H.out.mono ?_
  rintro e w1 ⟨r, rfl, hb1, hr⟩
  have Hb1 := hide hb1; clear hb1
  have hr1 : r = -1 := by
    rcases hr with ⟨h, _⟩ | ⟨k, c, _, h, _⟩
    · exact h
    · simp at h
  subst hr1
  clear hr H
  go_wp2
  go_ret
  exact ⟨rfl, Hb1.out⟩

set_option maxRecDepth 100000 in
set_option maxHeartbeats 2000000 in
theorem delete_any (n cap g : Nat) (a1 a2 a3 : Value) (pr : Cl → Bool) (xs : List Cl) (w : World) (hrow : Row w g cap xs) (hl : xs.length = n) (hn : n ≤ 100000) (hp : PredC w g a1 a2 a3 pr xs) :
    Calls Try.prog 53 #[.slice (some ⟨g, 0, none⟩) n cap, .func (.func 55) #[] #[a1, a2, a3]] w (DelPost g cap (keepC pr xs) w) := by
  have H := hide (index_any (some ⟨g, 0, none⟩) n cap g a1 a2 a3 pr xs w (by have := hrow.slc; rwa [hl] at this) hn hp)
  have hncap : n ≤ cap := by
    obtain ⟨_, _, h, _⟩ := hrow
    omega
  have Hrow := hide hrow; clear hrow
  have Hp := hide hp; clear hp
  have Hl := hide hl; clear hl
  go_enter Try.func53, Try.ntmps53
  go_wp2_with fail
  refine H.out.mono ?_
  clear H
  rintro e w1 ⟨r, rfl, hb1, hr⟩
  have Hb1 := hide hb1; clear hb1
  rcases hr with ⟨rfl, hno⟩ | ⟨k, c, rfl, hx, hc, hno⟩
  · have Hno := hide hno; clear hno
    go_wp2
    go_ret
    have h1 := Hrow.out.below Hb1.out
    refine ⟨by rw [keepC_none Hno.out, Hl.out]; rfl, by rw [keepC_none Hno.out]; exact h1, grown_below Hb1.out _⟩
  · have hkn : k < n := by have := (List.getElem?_eq_some_iff.1 hx).1; have := Hl.out; omega
    have Hx := hide hx; clear hx
    have Hc := hide hc; clear hc
    have Hno := hide hno; clear hno
    have hk1 : ((k : Int) == -1) = false := by rw [beq_eq_false_iff_ne]; omega
    go_wp2
    go_loopg [5, 6] n (fun gk i j wr => ∃ (jn iN : Nat) (F mid : List Cl), jn ≤ n ∧ n - jn ≤ gk ∧ j = .int .i64 (jn : Int) ∧ i = .int .i64 (iN : Int) ∧ F.length = iN ∧ F = keepC pr (xs.take jn) ∧ F.length + mid.length = jn ∧ 0 < mid.length ∧ Row wr g cap (F ++ mid ++ xs.drop jn) ∧ w.grownBy wr (some g))
    case atStart =>
      have hF : keepC pr (xs.take (k + 1)) = xs.take k := by rw [keepC_more Hx.out true Hc.out, keepC_none Hno.out]; simp
      refine ⟨k + 1, k, xs.take k, [c], by omega, by omega, by go_num, rfl, by rw [List.length_take, Hl.out]; omega, hF.symm, by rw [List.length_take, Hl.out]; simp; omega, by simp, ?_, grown_below Hb1.out _⟩
      rw [← take_snoc Hx.out, List.take_append_drop]
      exact Hrow.out.below Hb1.out
    case round =>
      obtain ⟨jn, iN, F, mid, hjn, hgk, rfl, rfl, hFl, hF, hmid, hm0, hrw, hgr⟩ := hrel
      have Hrw := hide hrw; clear hrw
      have Hgr := hide hgr; clear hgr
      have HF := hide hF; clear hF
      have Hmid := hide hmid; clear hmid
      have Hm0 := hide hm0; clear hm0
      have hij : iN < jn := by have := Hmid.out; have := Hm0.out; omega
      have HFl := hide hFl; clear hFl
      by_cases hlt : jn < n
      · obtain ⟨d, hd⟩ : ∃ d, xs[jn]? = some d := ⟨xs[jn]'(by rw [Hl.out]; exact hlt), List.getElem?_eq_getElem _⟩
        obtain ⟨g0, g1, g2, g3, g4, g5, g6, g7, g8⟩ := Hrw.out.at_ (mid_at F mid _ jn Hmid.out xs rfl d hd)
        have Hd := hide hd; clear hd
        go_wp2_with fail
        refine (Hp.out _ (Hgr.out.trans (World.grownBy_alloc _ _ _)) d (List.mem_of_getElem? Hd.out)).mono ?_
        rintro e w2 ⟨rfl, hb2⟩
        have hrw2 := (Hrw.out.below ((Below.refl _ wr).alloc (Nat.le_refl _) (.cells (#[.int .i64 d.firm, .int .i64 d.seq, .int .i64 d.time, .int .i64 d.kind, .int .i64 d.a, .int .u64 d.ref, .int .u64 d.aux, .int .u64 d.prev, .int .u64 d.tag]) 29))).below hb2
        have hgr2 := (Hgr.out.trans (World.grownBy_alloc wr (.cells (#[.int .i64 d.firm, .int .i64 d.seq, .int .i64 d.time, .int .i64 d.kind, .int .i64 d.a, .int .u64 d.ref, .int .u64 d.aux, .int .u64 d.prev, .int .u64 d.tag]) 29) _)).trans (grown_below hb2 (some g))
        have q2 : IsCl w2 wr.heap.size 0 d := (IsCl.block (heap_alloc_new wr (.cells (#[.int .i64 d.firm, .int .i64 d.seq, .int .i64 d.time, .int .i64 d.kind, .int .i64 d.a, .int .u64 d.ref, .int .u64 d.aux, .int .u64 d.prev, .int .u64 d.tag]) 29))).keep (w' := w2) (fun o => hb2.cell (p := ⟨wr.heap.size, o, none⟩) (by simp))
        obtain ⟨d0, d1, d2, d3, d4, d5, d6, d7, d8⟩ := q2.at0
        clear q2 g0 g1 g2 g3 g4 g5 g6 g7 g8
        have Hrw2 := hide hrw2; clear hrw2
        have Hgr2 := hide hgr2; clear hgr2
        clear hb2
        rcases Bool.eq_false_or_eq_true (pr d) with hpd | hpd
        · have Hpd := hide hpd
          rw [hpd]; clear hpd
          go_wp2
          go_roundg (n - (jn + 1))
          case measure => omega
          case rel => exact ⟨jn + 1, iN, F, mid ++ [d], by omega, by omega, by go_num, rfl, HFl.out, by rw [keepC_more Hd.out true Hpd.out, ← HF.out]; simp, by rw [List.length_append]; have := Hmid.out; simp; omega, by rw [List.length_append]; have := Hm0.out; omega, by rw [← mid_on F mid xs jn d Hd.out]; exact Hrw2.out, Hgr2.out⟩
        · have Hpd := hide hpd
          rw [hpd]; clear hpd
          have hin : (iN : Int) < (n : Int) := by omega
          have hlen : iN < (F ++ mid ++ xs.drop jn).length := by rw [List.length_append, List.length_append, HFl.out]; have := Hm0.out; omega
          go_wp2_with (refine wpList_store_row rfl (.tmp 33) (.tmp 32) rfl g cap iN (F ++ mid ++ xs.drop jn) d rfl rfl Hrw2.out hlen ?_; intro w3 hr3 hg3; have Hr3 := hide hr3; clear hr3; have Hg3 := hide hg3; clear hg3; clear d0 d1 d2 d3 d4 d5 d6 d7 d8)
          go_roundg (n - (jn + 1))
          case measure => omega
          case rel => exact ⟨jn + 1, iN + 1, F ++ [d], mid.tail ++ [d], by omega, by omega, by go_num, by go_num, by rw [List.length_append, HFl.out]; rfl, by rw [keepC_more Hd.out false Hpd.out, ← HF.out]; rfl, by rw [List.length_append, List.length_append, List.length_tail]; have := Hmid.out; have := Hm0.out; simp; omega, by rw [List.length_append]; simp, by rw [← mid_set F mid xs jn Hm0.out d Hd.out, HFl.out]; exact Hr3.out, Hgr2.out.trans Hg3.out⟩
      · have hjn2 : jn = n := by omega
        subst hjn2
        have hdrop : xs.drop jn = [] := List.drop_eq_nil_of_le (by rw [Hl.out]; omega)
        have hfull : xs.take jn = xs := List.take_of_length_le (by rw [Hl.out]; omega)
        obtain ⟨w3, hrun, hr3, hg3⟩ := run_clear_row (k := jn - iN) (c := cap - iN) (i := iN) Hrw.out (by omega) (by omega) (by rw [hdrop, List.length_append, List.length_append, HFl.out]; omega) 0
        have e1 : (F ++ mid ++ xs.drop jn).take iN = keepC pr xs := by
          rw [hdrop, List.append_nil, ← HFl.out, List.take_left', HF.out, hfull]
          rfl
        rw [e1] at hr3
        have Hrun := hide hrun; clear hrun
        have Hr3 := hide hr3; clear hr3
        have Hg3 := hide hg3; clear hg3
        have e2 : (keepC pr xs).length = iN := by rw [← HFl.out, HF.out, hfull]
        have E2 := hide e2
        clear e1 e2 hdrop hfull
        have hin : (iN : Int) < (jn : Int) := by omega
        have hic : (iN : Int) < (cap : Int) := by omega
        have hjc : (jn : Int) ≤ (cap : Int) := by omega
        go_wp2_with (refine wpList_clear_run rfl (.tmp 38) rfl _ rfl _ w3 Hrun.out ?_)
        go_ret
        exact ⟨by rw [E2.out]; rfl, Hr3.out, Hgr.out.trans Hg3.out⟩
end Go.Proofs.Ythpbjceajnaokaa
