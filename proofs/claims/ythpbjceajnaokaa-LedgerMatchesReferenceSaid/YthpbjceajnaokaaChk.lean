/- Check: whether a chain is right. Condition: chains of at most 100000 claims. -/
import Derived.Test.YthpbjceajnaokaaMap
import Derived.Deep.DeepCutAuto
import Derived.Deep.LoopGhost
namespace Go.Proofs.Ythpbjceajnaokaa
open Go.RowKit

/-- Which claims are standing. -/
def standStep (f : Int → Bool) (c : Cl) : Int → Bool := if c.kind = 4 then fun y => if y = c.a then false else f y else fun y => if y = c.seq then true else f y
def stand (p : List Cl) : Int → Bool := p.foldl standStep (fun _ => false)
theorem stand_snoc (p : List Cl) (c : Cl) : stand (p ++ [c]) = standStep (stand p) c := by simp [stand, List.foldl_append]
def zeroC : Cl := ⟨0, 0, 0, 0, 0, 0, 0, 0, 0⟩
def lastC (p : List Cl) : Cl := p.getLast?.getD zeroC
theorem lastC_snoc (p : List Cl) (c : Cl) : lastC (p ++ [c]) = c := by simp [lastC]
def prevD (p : List Cl) : Int := if p.length = 0 then 0 else digC (lastC p)
/-- Whether a claim is right behind others. -/
def okAt (key firm : Int) (p : List Cl) (c : Cl) : Bool :=
  okF c && c.firm == firm && c.seq == (p.length : Int) + 1 && !(decide (c.time < (lastC p).time)) && c.prev == prevD p && c.tag == tagC key c && (c.kind != 4 || stand p c.a)
/-- Whether a chain is right. -/
def chkF (key firm : Int) (l : List Cl) : Bool := decide (l.length ≤ 1000) && (List.range l.length).all fun i => okAt key firm (l.take i) (l[i]?.getD zeroC)
def ChkPost (b : Bool) (w : World) (e : Ending) (w' : World) : Prop := e = .returned (.int .i64 (if b then 0 else 410)) ∧ Below w.heap.size w w'

theorem chk_long {key firm : Int} {l : List Cl} (h : ¬ l.length ≤ 1000) : chkF key firm l = false := by simp [chkF, h]
theorem chk_bad {key firm : Int} {l : List Cl} {k : Nat} {c : Cl} (h : l[k]? = some c) (hb : okAt key firm (l.take k) c = false) : chkF key firm l = false := by
  have hk := (List.getElem?_eq_some_iff.1 h).1
  unfold chkF
  rw [Bool.and_eq_false_iff]
  right
  rw [List.all_eq_false]
  exact ⟨k, List.mem_range.2 hk, by rw [h]; simpa using hb⟩
theorem chk_good {key firm : Int} {l : List Cl} (hl : l.length ≤ 1000) (h : ∀ j, j < l.length → okAt key firm (l.take j) (l[j]?.getD zeroC) = true) : chkF key firm l = true := by
  unfold chkF
  rw [Bool.and_eq_true]
  exact ⟨by simpa using hl, List.all_eq_true.2 fun i hi => h i (List.mem_range.1 hi)⟩

theorem okAt_0 {key firm : Int} {p : List Cl} {c : Cl} (h : okF c = false) : okAt key firm p c = false := by simp [okAt, h]
theorem okAt_1 {key firm : Int} {p : List Cl} {c : Cl} (h : (c.firm != firm) = true) : okAt key firm p c = false := by
  have : (c.firm == firm) = false := by simpa using h
  simp only [okAt, this, Bool.and_false, Bool.false_and]
theorem okAt_2 {key firm : Int} {p : List Cl} {c : Cl} {k : Nat} (hk : p.length = k) (h : (c.seq != (k : Int) + 1) = true) : okAt key firm p c = false := by
  subst hk
  have : (c.seq == (p.length : Int) + 1) = false := by simpa using h
  simp only [okAt, this, Bool.and_false, Bool.false_and]
theorem okAt_3 {key firm : Int} {p : List Cl} {c : Cl} (h : decide (c.time < (lastC p).time) = true) : okAt key firm p c = false := by
  simp only [okAt, h, Bool.not_true, Bool.and_false, Bool.false_and]
theorem okAt_4 {key firm : Int} {p : List Cl} {c : Cl} (h : (c.prev != prevD p) = true) : okAt key firm p c = false := by
  have : (c.prev == prevD p) = false := by simpa using h
  simp only [okAt, this, Bool.and_false, Bool.false_and]
theorem okAt_5 {key firm : Int} {p : List Cl} {c : Cl} (h : (c.tag != tagC key c) = true) : okAt key firm p c = false := by
  have : (c.tag == tagC key c) = false := by simpa using h
  simp only [okAt, this, Bool.and_false, Bool.false_and]
theorem okAt_6 {key firm : Int} {p : List Cl} {c : Cl} (h : (c.kind != 4) = false) (h' : stand p c.a = false) : okAt key firm p c = false := by
  simp only [okAt, h, h', Bool.or_false, Bool.and_false]
theorem okAt_7 {key firm : Int} {p : List Cl} {c : Cl} {k : Nat} (hk : p.length = k) (h0 : okF c = true) (h1 : (c.firm != firm) = false) (h2 : (c.seq != (k : Int) + 1) = false) (h3 : decide (c.time < (lastC p).time) = false)
    (h4 : (c.prev != prevD p) = false) (h5 : (c.tag != tagC key c) = false) (h6 : ((c.kind != 4) || stand p c.a) = true) : okAt key firm p c = true := by
  subst hk
  have e1 : (c.firm == firm) = true := by simpa using h1
  have e2 : (c.seq == (p.length : Int) + 1) = true := by simpa using h2
  have e4 : (c.prev == prevD p) = true := by simpa using h4
  have e5 : (c.tag == tagC key c) = true := by simpa using h5
  simp only [okAt, h0, e1, e2, h3, e4, e5, h6, Bool.not_false, Bool.and_self]
/-- Nine stores lay a claim. -/
theorem IsCl.set9 {w : World} {b : Nat} {c d : Cl} (h : IsCl w b 0 d) : IsCl (((((((((w.setCell ⟨b, 0, none⟩ (.int .i64 c.firm)).setCell ⟨b, 1, none⟩ (.int .i64 c.seq)).setCell ⟨b, 2, none⟩ (.int .i64 c.time)).setCell ⟨b, 3, none⟩ (.int .i64 c.kind)).setCell ⟨b, 4, none⟩ (.int .i64 c.a)).setCell ⟨b, 5, none⟩ (.int .u64 c.ref)).setCell ⟨b, 6, none⟩ (.int .u64 c.aux)).setCell ⟨b, 7, none⟩ (.int .u64 c.prev)).setCell ⟨b, 8, none⟩ (.int .u64 c.tag)) b 0 c := by
  obtain ⟨h0, h1, h2, h3, h4, h5, h6, h7, h8⟩ := h.at0
  refine IsCl.of0 ?_ ?_ ?_ ?_ ?_ ?_ ?_ ?_ ?_ <;> go_simp
theorem okF_seq {c : Cl} (h : okF c = true) : (Lit.int .i64 c.seq).wf = true ∧ (Lit.int .i64 c.a).wf = true := by
  simp only [okF, outB, Bool.and_eq_true, Bool.not_eq_true', decide_eq_false_iff_not] at h
  exact ⟨i64_wf (by omega) (by omega), i64_wf (by omega) (by omega)⟩
theorem ok_more {key firm : Int} {xs : List Cl} {k : Nat} {c : Cl} (h : ∀ j, j < k → okAt key firm (xs.take j) (xs[j]?.getD zeroC) = true) (hx : xs[k]? = some c) (hc : okAt key firm (xs.take k) c = true) :
    ∀ j, j < k + 1 → okAt key firm (xs.take j) (xs[j]?.getD zeroC) = true := by
  intro j hj
  by_cases he : j = k
  · subst he; rw [hx]; exact hc
  · exact h j (by omega)
theorem take_snoc {xs : List Cl} {k : Nat} {c : Cl} (hx : xs[k]? = some c) : xs.take (k + 1) = xs.take k ++ [c] := by
  have hk := (List.getElem?_eq_some_iff.1 hx).1
  rw [List.take_succ_eq_append_getElem hk, (List.getElem?_eq_some_iff.1 hx).2]

set_option maxRecDepth 100000 in
set_option maxHeartbeats 2000000 in
theorem check_any (A : Option Addr) (n ca : Nat) (key firm : Int) (xs : List Cl) (w : World) (ha : SlC w w.heap.size A n xs) (hn : n ≤ 1000) :
    Calls Try.prog 20 #[.slice A n ca, .int .u64 key, .int .i64 firm] w (ChkPost (chkF key firm xs) w) := by
  have Ha := hide ha; clear ha
  have hmm := @run_makeMap Try.prog
  go_enter Try.func20, Try.ntmps20
  go_wp2
  go_loopg [18] n (fun gk i wr => ∃ k : Nat, k + gk = n ∧ i = .int .i64 k ∧ (∀ j, j < k → okAt key firm (xs.take j) (xs[j]?.getD zeroC) = true) ∧ BMap wr w.heap.size k (stand (xs.take k)) ∧ IsCl wr (w.heap.size + 1) 0 (lastC (xs.take k)) ∧ (∀ o, wr.frozen? ⟨w.heap.size + 1, o, none⟩ = false) ∧ w.heap.size + 1 < wr.heap.size ∧ Below w.heap.size w wr)
  case atStart => exact ⟨0, by omega, rfl, (fun j hj => absurd hj (by omega)), (BMap.made w).alloc _, IsCl.block (c := zeroC) (by rw [← World.size_alloc (w := w)]; exact heap_alloc_new _ _), by intro o; go_simp, by simp, ((Below.refl _ _).alloc (Nat.le_refl _) _).alloc (by simp) _⟩
  case round =>
    obtain ⟨k, hk, rfl, hok, hmap, hl, hfz, hsz, hbl⟩ := hrel
    obtain ⟨l0, l1, l2, l3, l4, l5, l6, l7, l8⟩ := hl.at0
    have Hl := hide hl; clear hl
    have Hk := hide hk; clear hk
    have Hok := hide hok; clear hok
    have Hmap := hide hmap; clear hmap
    have Hbl := hide hbl; clear hbl
    by_cases hlt : k < n
    · obtain ⟨b, off, c, rfl, hb, hx, hc⟩ := Ha.out.at_ hlt
      have Hx := hide hx; clear hx
      obtain ⟨g0, g1, g2, g3, g4, g5, g6, g7, g8⟩ := hc.keep (w' := wr) (fun o => Hbl.out.cell (p := ⟨b, o, none⟩) hb)
      clear hc
      have hpl : (xs.take k).length = k := by have := Ha.out.1; rw [List.length_take]; omega
      have Hpl := hide hpl; clear hpl
      go_upto_if 24 with (fail)
      go_cut [11] (fun p wx => p = .int .u64 (prevD (xs.take k)) ∧ Below (wr.heap.size + 1) (wr.alloc (.cells (#[.int .i64 c.firm, .int .i64 c.seq, .int .i64 c.time, .int .i64 c.kind, .int .i64 c.a, .int .u64 c.ref, .int .u64 c.aux, .int .u64 c.prev, .int .u64 c.tag]) 29)) wx)
      case first =>
        by_cases hk0 : 0 < k
        · have hkd : decide (0 < (k : Int)) = true := by simp; omega
          go_wp2_with fail
          refine (digest_any (lastC (xs.take k)) _).mono ?_
          rintro e w1 ⟨rfl, hb1⟩
          have Hb1 := hide hb1; clear hb1
          go_wp2
          go_meet
          exact ⟨by rw [prevD, if_neg (by rw [Hpl.out]; omega)], Hb1.out.mono (by simp)⟩
        · have hkd : decide (0 < (k : Int)) = false := by simp; omega
          go_wp2_with fail
          go_meet
          exact ⟨by rw [prevD, if_pos (by rw [Hpl.out]; omega)], Below.refl _ _⟩
      case rest =>
        obtain ⟨rfl, hcut⟩ := hcut
        clear g0 g1 g2 g3 g4 g5 g6 g7 g8
        have hsz2 : w.heap.size + 1 < wr.heap.size + 1 := by omega
        have k1 := IsCl.block (heap_alloc_new wr (.cells (#[.int .i64 c.firm, .int .i64 c.seq, .int .i64 c.time, .int .i64 c.kind, .int .i64 c.a, .int .u64 c.ref, .int .u64 c.aux, .int .u64 c.prev, .int .u64 c.tag]) 29))
        have k2 := (Hl.out.keep (w' := wr.alloc (.cells (#[.int .i64 c.firm, .int .i64 c.seq, .int .i64 c.time, .int .i64 c.kind, .int .i64 c.a, .int .u64 c.ref, .int .u64 c.aux, .int .u64 c.prev, .int .u64 c.tag]) 29)) (fun o => World.cell?_alloc_lt wr _ _ hsz)).keep (w' := wc) (fun o => hcut.cell (p := ⟨w.heap.size + 1, o, none⟩) hsz2)
        have k3 := k1.keep (w' := wc) (fun o => hcut.cell (p := ⟨wr.heap.size, o, none⟩) (Nat.lt_succ_self _))
        obtain ⟨g0, g1, g2, g3, g4, g5, g6, g7, g8⟩ := k3.at0
        clear k1 k3 l0 l1 l2 l3 l4 l5 l6 l7 l8
        obtain ⟨l0, l1, l2, l3, l4, l5, l6, l7, l8⟩ := k2.at0
        have G0 := Wd.cell g0; have G1 := Wd.cell g1; have G2 := Wd.cell g2; have G3 := Wd.cell g3; have G4 := Wd.cell g4; have G5 := Wd.cell g5; have G6 := Wd.cell g6; have G7 := Wd.cell g7; have G8 := Wd.cell g8
        have L2 := Wd.cell l2
        have Hcut := hide hcut; clear hcut
        cases hz0 : okF c
        · have Hbad := hide (chk_bad (firm := firm) (key := key) Hx.out (okAt_0 hz0))
          go_wp2_with fail
          refine wp_region_grew (by kernel_rfl) (by kernel_rfl) ?_
          repeat (go_big_quiet_step (first | (go_at_call 41; exact grew_of (formed_any c _)) | (go_at_call 18; exact grew_of (tag_any _ c _))))
          refine wpQuiet_nil ?_
          intro w5 hw5
          obtain ⟨⟨w5, hb5⟩, rfl⟩ := hw5
          clear G0 G1 G2 G3 G4 G5 G6 G7 G8 L2
          have Hb5 := hide hb5; clear hb5
          go_wp2
          go_ret
          exact ⟨by rw [Hbad.out]; rfl, Hbl.out.trans ((((Below.refl _ _).alloc (Nat.le_refl _) _).trans (Hcut.out.mono (Nat.le_succ _))).trans (Hb5.out.mono (by have := Hcut.out.size; simp at this; omega)) |>.mono Hbl.out.size)⟩
        · rcases Bool.eq_false_or_eq_true (c.firm != firm) with hz1 | hz1
          · have Hbad := hide (chk_bad (firm := firm) (key := key) Hx.out (okAt_1 hz1))
            go_wp2_with fail
            refine wp_region_grew (by kernel_rfl) (by kernel_rfl) ?_
            repeat (go_big_quiet_step (first | (go_at_call 41; exact grew_of (formed_any c _)) | (go_at_call 18; exact grew_of (tag_any _ c _))))
            refine wpQuiet_nil ?_
            intro w5 hw5
            obtain ⟨⟨w5, hb5⟩, rfl⟩ := hw5
            clear G0 G1 G2 G3 G4 G5 G6 G7 G8 L2
            have Hb5 := hide hb5; clear hb5
            go_wp2
            go_ret
            exact ⟨by rw [Hbad.out]; rfl, Hbl.out.trans ((((Below.refl _ _).alloc (Nat.le_refl _) _).trans (Hcut.out.mono (Nat.le_succ _))).trans (Hb5.out.mono (by have := Hcut.out.size; simp at this; omega)) |>.mono Hbl.out.size)⟩
          · rcases Bool.eq_false_or_eq_true (c.seq != (k : Int) + 1) with hz2 | hz2
            · have Hbad := hide (chk_bad (firm := firm) (key := key) Hx.out (okAt_2 Hpl.out hz2))
              go_wp2_with fail
              refine wp_region_grew (by kernel_rfl) (by kernel_rfl) ?_
              repeat (go_big_quiet_step (first | (go_at_call 41; exact grew_of (formed_any c _)) | (go_at_call 18; exact grew_of (tag_any _ c _))))
              refine wpQuiet_nil ?_
              intro w5 hw5
              obtain ⟨⟨w5, hb5⟩, rfl⟩ := hw5
              clear G0 G1 G2 G3 G4 G5 G6 G7 G8 L2
              have Hb5 := hide hb5; clear hb5
              go_wp2
              go_ret
              exact ⟨by rw [Hbad.out]; rfl, Hbl.out.trans ((((Below.refl _ _).alloc (Nat.le_refl _) _).trans (Hcut.out.mono (Nat.le_succ _))).trans (Hb5.out.mono (by have := Hcut.out.size; simp at this; omega)) |>.mono Hbl.out.size)⟩
            · rcases Bool.eq_false_or_eq_true (decide (c.time < (lastC (List.take k xs)).time)) with hz3 | hz3
              · have Hbad := hide (chk_bad (firm := firm) (key := key) Hx.out (okAt_3 hz3))
                go_wp2_with fail
                refine wp_region_grew (by kernel_rfl) (by kernel_rfl) ?_
                repeat (go_big_quiet_step (first | (go_at_call 41; exact grew_of (formed_any c _)) | (go_at_call 18; exact grew_of (tag_any _ c _))))
                refine wpQuiet_nil ?_
                intro w5 hw5
                obtain ⟨⟨w5, hb5⟩, rfl⟩ := hw5
                clear G0 G1 G2 G3 G4 G5 G6 G7 G8 L2
                have Hb5 := hide hb5; clear hb5
                go_wp2
                go_ret
                exact ⟨by rw [Hbad.out]; rfl, Hbl.out.trans ((((Below.refl _ _).alloc (Nat.le_refl _) _).trans (Hcut.out.mono (Nat.le_succ _))).trans (Hb5.out.mono (by have := Hcut.out.size; simp at this; omega)) |>.mono Hbl.out.size)⟩
              · rcases Bool.eq_false_or_eq_true (c.prev != prevD (List.take k xs)) with hz4 | hz4
                · have Hbad := hide (chk_bad (firm := firm) (key := key) Hx.out (okAt_4 hz4))
                  go_wp2_with fail
                  refine wp_region_grew (by kernel_rfl) (by kernel_rfl) ?_
                  repeat (go_big_quiet_step (first | (go_at_call 41; exact grew_of (formed_any c _)) | (go_at_call 18; exact grew_of (tag_any _ c _))))
                  refine wpQuiet_nil ?_
                  intro w5 hw5
                  obtain ⟨⟨w5, hb5⟩, rfl⟩ := hw5
                  clear G0 G1 G2 G3 G4 G5 G6 G7 G8 L2
                  have Hb5 := hide hb5; clear hb5
                  go_wp2
                  go_ret
                  exact ⟨by rw [Hbad.out]; rfl, Hbl.out.trans ((((Below.refl _ _).alloc (Nat.le_refl _) _).trans (Hcut.out.mono (Nat.le_succ _))).trans (Hb5.out.mono (by have := Hcut.out.size; simp at this; omega)) |>.mono Hbl.out.size)⟩
                · rcases Bool.eq_false_or_eq_true (c.tag != tagC key c) with hz5 | hz5
                  · have Hbad := hide (chk_bad (firm := firm) (key := key) Hx.out (okAt_5 hz5))
                    go_wp2_with fail
                    refine wp_region_grew (by kernel_rfl) (by kernel_rfl) ?_
                    repeat (go_big_quiet_step (first | (go_at_call 41; exact grew_of (formed_any c _)) | (go_at_call 18; exact grew_of (tag_any _ c _))))
                    refine wpQuiet_nil ?_
                    intro w5 hw5
                    obtain ⟨⟨w5, hb5⟩, rfl⟩ := hw5
                    clear G0 G1 G2 G3 G4 G5 G6 G7 G8 L2
                    have Hb5 := hide hb5; clear hb5
                    go_wp2
                    go_ret
                    exact ⟨by rw [Hbad.out]; rfl, Hbl.out.trans ((((Below.refl _ _).alloc (Nat.le_refl _) _).trans (Hcut.out.mono (Nat.le_succ _))).trans (Hb5.out.mono (by have := Hcut.out.size; simp at this; omega)) |>.mono Hbl.out.size)⟩
                  · have Hz := hide (okAt_7 (k := k) (firm := firm) (key := key) (p := xs.take k) Hpl.out hz0 hz1 hz2 hz3 hz4 hz5)
                    obtain ⟨hws, hwa⟩ := okF_seq hz0
                    have Hws := hide hws; clear hws
                    have Hwa := hide hwa; clear hwa
                    go_wp2_with fail
                    refine wp_region_grew (by kernel_rfl) (by kernel_rfl) ?_
                    repeat (go_big_quiet_step (first | (go_at_call 41; exact grew_of (formed_any c _)) | (go_at_call 18; exact grew_of (tag_any _ c _))))
                    refine wpQuiet_nil ?_
                    intro w5 hw5
                    obtain ⟨⟨w5, hb5⟩, rfl⟩ := hw5
                    clear G0 G1 G2 G3 G4 G5 G6 G7 G8 L2
                    clear hz0 hz1 hz2 hz3 hz4 hz5
                    have hsz5 : w.heap.size + 1 < wc.heap.size := by have := Hcut.out.size; simp at this; omega
                    have hszr : wr.heap.size < wc.heap.size := by have := Hcut.out.size; simp at this; omega
                    have m5 : BMap w5 w.heap.size k (stand (xs.take k)) := (((Hmap.out.alloc (.cells (#[.int .i64 c.firm, .int .i64 c.seq, .int .i64 c.time, .int .i64 c.kind, .int .i64 c.a, .int .u64 c.ref, .int .u64 c.aux, .int .u64 c.prev, .int .u64 c.tag]) 29)).below (Hcut.out.mono (by simp))).below hb5)
                    have q1 := k2.keep (w' := w5) (fun o => hb5.cell (p := ⟨w.heap.size + 1, o, none⟩) hsz5)
                    have q2 : IsCl w5 wr.heap.size 0 c := (IsCl.of0 g0 g1 g2 g3 g4 g5 g6 g7 g8).keep (w' := w5) (fun o => hb5.cell (p := ⟨wr.heap.size, o, none⟩) hszr)
                    clear g0 g1 g2 g3 g4 g5 g6 g7 g8 l0 l1 l2 l3 l4 l5 l6 l7 l8
                    have hz5 : w.heap.size + 1 < w5.heap.size := by have := hb5.size; omega
                    have hf5 : ∀ o, w5.frozen? ⟨w.heap.size + 1, o, none⟩ = false := fun o => (hb5.frozen (p := ⟨w.heap.size + 1, o, none⟩) hsz5).trans ((Hcut.out.frozen (p := ⟨w.heap.size + 1, o, none⟩) hsz2).trans ((World.frozen?_alloc_past _ _ o hsz).trans (hfz o)))
                    have Hb5 := hide hb5; clear hb5
                    have M5 := hide m5; clear m5
                    have K2 := hide k2; clear k2
                    obtain ⟨g0, g1, g2, g3, g4, g5, g6, g7, g8⟩ := q2.at0
                    have Q1 := hide q1; clear q1
                    have Q2 := hide q2; clear q2
                    have hzr5 : wr.heap.size < w5.heap.size := by have := Hb5.out.size; omega
                    rcases Bool.eq_false_or_eq_true (c.kind != 4) with hkd | hkd
                    · go_wp2_with (at_mapUpdate; refine wpList_mapUpd rfl (.tmp 67) (.tmp 69) (.const (.bool true)) rfl w.heap.size k (stand (xs.take k)) c.seq true rfl rfl rfl M5.out (by omega) Hws.out ?_; intro w6 hm6 hg6; have M6 := hide hm6; clear hm6; obtain ⟨g0, g1, g2, g3, g4, g5, g6, g7, g8⟩ := (Q2.out.keep (w' := w6) (fun o => hg6.cell_far ⟨wr.heap.size, o, none⟩ hzr5 (some_ne (a := wr.heap.size) (by omega)))).at0; have Q6 := hide (Q1.out.keep (w' := w6) (fun o => hg6.cell_far ⟨w.heap.size + 1, o, none⟩ hz5 (some_ne (a := w.heap.size + 1) (by omega)))); obtain ⟨l0, l1, l2, l3, l4, l5, l6, l7, l8⟩ := Q6.out.at0; have hf6 : ∀ o, w6.frozen? ⟨w.heap.size + 1, o, none⟩ = false := fun o => (hg6.frozen_far ⟨w.heap.size + 1, o, none⟩ hz5 (some_ne (a := w.heap.size + 1) (by omega))).trans (hf5 o); have hz6 : w.heap.size + 1 < w6.heap.size := (by have := hg6.size; omega); have Hg6 := hide hg6; clear hg6)
                      go_roundg (gk - 1)
                      case measure => have := Hk.out; omega
                      case rel =>
                        refine ⟨k + 1, by have := Hk.out; omega, by go_num, ok_more Hok.out Hx.out (Hz.out (by rw [hkd, Bool.true_or])), ?_, ?_, ?_, ?_, ?_⟩
                        · rw [take_snoc Hx.out, stand_snoc]
                          have e : standStep (stand (xs.take k)) c = fun z => if z = c.seq then true else stand (xs.take k) z := by unfold standStep; rw [if_neg (by simpa using hkd)]
                          rw [e]
                          exact ((((((((M6.out.setCell (p := ⟨w.heap.size + 1, 0, none⟩) (by simp) _).setCell (p := ⟨w.heap.size + 1, 1, none⟩) (by simp) _).setCell (p := ⟨w.heap.size + 1, 2, none⟩) (by simp) _).setCell (p := ⟨w.heap.size + 1, 3, none⟩) (by simp) _).setCell (p := ⟨w.heap.size + 1, 4, none⟩) (by simp) _).setCell (p := ⟨w.heap.size + 1, 5, none⟩) (by simp) _).setCell (p := ⟨w.heap.size + 1, 6, none⟩) (by simp) _).setCell (p := ⟨w.heap.size + 1, 7, none⟩) (by simp) _).setCell (p := ⟨w.heap.size + 1, 8, none⟩) (by simp) _
                        · rw [take_snoc Hx.out, lastC_snoc]
                          exact Q6.out.set9
                        · intro o; simp only [World.frozen?_setCell]; exact hf6 o
                        · simp only [World.size_setCell]; exact hz6
                        · have B5 : Below w.heap.size w w5 := Hbl.out.trans ((((Below.refl _ _).alloc (Nat.le_refl _) _).trans (Hcut.out.mono (Nat.le_succ _))).trans (Hb5.out.mono (by have := Hcut.out.size; simp at this; omega)) |>.mono Hbl.out.size)
                          have B6 := B5.grown Hg6.out B5.size (fun k e => by injection e with e; omega)
                          exact ((((((((B6.setCell (p := ⟨w.heap.size + 1, 0, none⟩) (Nat.le_succ _) _).setCell (p := ⟨w.heap.size + 1, 1, none⟩) (Nat.le_succ _) _).setCell (p := ⟨w.heap.size + 1, 2, none⟩) (Nat.le_succ _) _).setCell (p := ⟨w.heap.size + 1, 3, none⟩) (Nat.le_succ _) _).setCell (p := ⟨w.heap.size + 1, 4, none⟩) (Nat.le_succ _) _).setCell (p := ⟨w.heap.size + 1, 5, none⟩) (Nat.le_succ _) _).setCell (p := ⟨w.heap.size + 1, 6, none⟩) (Nat.le_succ _) _).setCell (p := ⟨w.heap.size + 1, 7, none⟩) (Nat.le_succ _) _).setCell (p := ⟨w.heap.size + 1, 8, none⟩) (Nat.le_succ _) _
                    · rcases Bool.eq_false_or_eq_true (stand (xs.take k) c.a) with hst | hst
                      · have hlk := BMap.look M5.out Hwa.out
                        rw [hst] at hlk
                        go_wp2_with (at_mapUpdate; refine wpList_mapUpd rfl (.tmp 75) (.tmp 77) (.const (.bool false)) rfl w.heap.size k (stand (xs.take k)) c.a false rfl rfl rfl M5.out (by omega) Hwa.out ?_; intro w6 hm6 hg6; have M6 := hide hm6; clear hm6; obtain ⟨g0, g1, g2, g3, g4, g5, g6, g7, g8⟩ := (Q2.out.keep (w' := w6) (fun o => hg6.cell_far ⟨wr.heap.size, o, none⟩ hzr5 (some_ne (a := wr.heap.size) (by omega)))).at0; have Q6 := hide (Q1.out.keep (w' := w6) (fun o => hg6.cell_far ⟨w.heap.size + 1, o, none⟩ hz5 (some_ne (a := w.heap.size + 1) (by omega)))); obtain ⟨l0, l1, l2, l3, l4, l5, l6, l7, l8⟩ := Q6.out.at0; have hf6 : ∀ o, w6.frozen? ⟨w.heap.size + 1, o, none⟩ = false := fun o => (hg6.frozen_far ⟨w.heap.size + 1, o, none⟩ hz5 (some_ne (a := w.heap.size + 1) (by omega))).trans (hf5 o); have hz6 : w.heap.size + 1 < w6.heap.size := (by have := hg6.size; omega); have Hg6 := hide hg6; clear hg6)
                        go_roundg (gk - 1)
                        case measure => have := Hk.out; omega
                        case rel =>
                          refine ⟨k + 1, by have := Hk.out; omega, by go_num, ok_more Hok.out Hx.out (Hz.out (by rw [hst, Bool.or_true])), ?_, ?_, ?_, ?_, ?_⟩
                          · rw [take_snoc Hx.out, stand_snoc]
                            have e : standStep (stand (xs.take k)) c = fun z => if z = c.a then false else stand (xs.take k) z := by unfold standStep; rw [if_pos (by simpa using hkd)]
                            rw [e]
                            exact ((((((((M6.out.setCell (p := ⟨w.heap.size + 1, 0, none⟩) (by simp) _).setCell (p := ⟨w.heap.size + 1, 1, none⟩) (by simp) _).setCell (p := ⟨w.heap.size + 1, 2, none⟩) (by simp) _).setCell (p := ⟨w.heap.size + 1, 3, none⟩) (by simp) _).setCell (p := ⟨w.heap.size + 1, 4, none⟩) (by simp) _).setCell (p := ⟨w.heap.size + 1, 5, none⟩) (by simp) _).setCell (p := ⟨w.heap.size + 1, 6, none⟩) (by simp) _).setCell (p := ⟨w.heap.size + 1, 7, none⟩) (by simp) _).setCell (p := ⟨w.heap.size + 1, 8, none⟩) (by simp) _
                          · rw [take_snoc Hx.out, lastC_snoc]
                            exact Q6.out.set9
                          · intro o; simp only [World.frozen?_setCell]; exact hf6 o
                          · simp only [World.size_setCell]; exact hz6
                          · have B5 : Below w.heap.size w w5 := Hbl.out.trans ((((Below.refl _ _).alloc (Nat.le_refl _) _).trans (Hcut.out.mono (Nat.le_succ _))).trans (Hb5.out.mono (by have := Hcut.out.size; simp at this; omega)) |>.mono Hbl.out.size)
                            have B6 := B5.grown Hg6.out B5.size (fun k e => by injection e with e; omega)
                            exact ((((((((B6.setCell (p := ⟨w.heap.size + 1, 0, none⟩) (Nat.le_succ _) _).setCell (p := ⟨w.heap.size + 1, 1, none⟩) (Nat.le_succ _) _).setCell (p := ⟨w.heap.size + 1, 2, none⟩) (Nat.le_succ _) _).setCell (p := ⟨w.heap.size + 1, 3, none⟩) (Nat.le_succ _) _).setCell (p := ⟨w.heap.size + 1, 4, none⟩) (Nat.le_succ _) _).setCell (p := ⟨w.heap.size + 1, 5, none⟩) (Nat.le_succ _) _).setCell (p := ⟨w.heap.size + 1, 6, none⟩) (Nat.le_succ _) _).setCell (p := ⟨w.heap.size + 1, 7, none⟩) (Nat.le_succ _) _).setCell (p := ⟨w.heap.size + 1, 8, none⟩) (Nat.le_succ _) _
                      · have hlk := BMap.look M5.out Hwa.out
                        rw [hst] at hlk
                        have Hbad := hide (chk_bad (firm := firm) (key := key) Hx.out (okAt_6 hkd hst))
                        go_wp2
                        go_ret
                        exact ⟨by rw [Hbad.out]; rfl, Hbl.out.trans ((((Below.refl _ _).alloc (Nat.le_refl _) _).trans (Hcut.out.mono (Nat.le_succ _))).trans (Hb5.out.mono (by have := Hcut.out.size; simp at this; omega)) |>.mono Hbl.out.size)⟩
    · have hkn : k = n := by have := Hk.out; omega
      subst hkn
      have Hgood := hide (chk_good (key := key) (firm := firm) (l := xs) (by rw [Ha.out.1]; exact hn) (by rw [Ha.out.1]; exact Hok.out))
      go_wp2
      go_ret
      exact ⟨by rw [Hgood.out]; rfl, Hbl.out⟩
end Go.Proofs.Ythpbjceajnaokaa
