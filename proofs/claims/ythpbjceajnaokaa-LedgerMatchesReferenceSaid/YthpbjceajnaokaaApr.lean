/- The reference's AppendIn appends as Append does. Condition: chains of at most 999 claims. -/
import Derived.Test.YthpbjceajnaokaaChr
namespace Go.Proofs.Ythpbjceajnaokaa
open Go.RowKit

/-- The claim in its box, and the pair that is handed back. -/
def A3In (w wx : World) (d : Cl) : Prop :=
  IsCl wx w.heap.size 0 d ∧ (∀ o, wx.frozen? ⟨w.heap.size, o, none⟩ = false) ∧ wx.cell? ⟨w.heap.size + 1, 0, none⟩ = some (.slice none 0 0) ∧ wx.cell? ⟨w.heap.size + 1, 1, none⟩ = some (.int .i64 0) ∧ (∀ o, wx.frozen? ⟨w.heap.size + 1, o, none⟩ = false) ∧ w.heap.size + 1 < wx.heap.size ∧ Below w.heap.size w wx
theorem A3In.below {w wr wx : World} {d : Cl} (h : A3In w wr d) (hb : Below wr.heap.size wr wx) : A3In w wx d := by
  obtain ⟨h1, h2, h3, h4, h5, h6, h7⟩ := h
  have := hb.size
  exact ⟨h1.keep (fun o => hb.cell (p := ⟨w.heap.size, o, none⟩) (by show w.heap.size < _; omega)), fun o => (hb.frozen (p := ⟨w.heap.size, o, none⟩) (by show w.heap.size < _; omega)).trans (h2 o),
    (hb.cell (p := ⟨w.heap.size + 1, 0, none⟩) h6).trans h3, (hb.cell (p := ⟨w.heap.size + 1, 1, none⟩) h6).trans h4, fun o => (hb.frozen (p := ⟨w.heap.size + 1, o, none⟩) h6).trans (h5 o), by omega, h7.trans (hb.mono (by omega))⟩
theorem A3In.set {w wr : World} {d d' : Cl} (h : A3In w wr d) (k : Nat) (v : Value) (hd : IsCl (wr.setCell ⟨w.heap.size, k, none⟩ v) w.heap.size 0 d') : A3In w (wr.setCell ⟨w.heap.size, k, none⟩ v) d' := by
  obtain ⟨h1, h2, h3, h4, h5, h6, h7⟩ := h
  have hn : ∀ o, (⟨w.heap.size, k, none⟩ : Addr) ≠ ⟨w.heap.size + 1, o, none⟩ := fun o e => by have := congrArg Addr.block e; simp at this
  exact ⟨hd, fun o => by simp only [World.frozen?_setCell]; exact h2 o, by rw [World.cell?_setCell_other (h := hn 0)]; exact h3, by rw [World.cell?_setCell_other (h := hn 1)]; exact h4, fun o => by simp only [World.frozen?_setCell]; exact h5 o,
    by simpa using h6, h7.setCell (p := ⟨w.heap.size, k, none⟩) (Nat.le_refl _) _⟩
theorem A3In.set1 {w wr : World} {d : Cl} (h : A3In w wr d) (v : Int) : A3In w (wr.setCell ⟨w.heap.size, 1, none⟩ (.int .i64 v)) { d with seq := v } := by
  refine h.set 1 _ ?_
  obtain ⟨h0, h1, h2, h3, h4, h5, h6, h7, h8⟩ := h.1.at0
  refine IsCl.of0 ?_ ?_ ?_ ?_ ?_ ?_ ?_ ?_ ?_ <;> go_simp
theorem A3In.set7 {w wr : World} {d : Cl} (h : A3In w wr d) (v : Int) : A3In w (wr.setCell ⟨w.heap.size, 7, none⟩ (.int .u64 v)) { d with prev := v } := by
  refine h.set 7 _ ?_
  obtain ⟨h0, h1, h2, h3, h4, h5, h6, h7, h8⟩ := h.1.at0
  refine IsCl.of0 ?_ ?_ ?_ ?_ ?_ ?_ ?_ ?_ ?_ <;> go_simp
theorem A3In.set8 {w wr : World} {d : Cl} (h : A3In w wr d) (v : Int) : A3In w (wr.setCell ⟨w.heap.size, 8, none⟩ (.int .u64 v)) { d with tag := v } := by
  refine h.set 8 _ ?_
  obtain ⟨h0, h1, h2, h3, h4, h5, h6, h7, h8⟩ := h.1.at0
  refine IsCl.of0 ?_ ?_ ?_ ?_ ?_ ?_ ?_ ?_ ?_ <;> go_simp
/-- The start: box and pair. -/
theorem A3In.start (w : World) (c : Cl) : A3In w ((w.alloc (.cells (#[.int .i64 c.firm, .int .i64 c.seq, .int .i64 c.time, .int .i64 c.kind, .int .i64 c.a, .int .u64 c.ref, .int .u64 c.aux, .int .u64 c.prev, .int .u64 c.tag]) 29)).alloc (.cells #[.slice none 0 0, .int .i64 0] 38)) c := by
  have hz := World.size_alloc w (.cells (#[.int .i64 c.firm, .int .i64 c.seq, .int .i64 c.time, .int .i64 c.kind, .int .i64 c.a, .int .u64 c.ref, .int .u64 c.aux, .int .u64 c.prev, .int .u64 c.tag]) 29)
  have hz2 := World.size_alloc (w.alloc (.cells (#[.int .i64 c.firm, .int .i64 c.seq, .int .i64 c.time, .int .i64 c.kind, .int .i64 c.a, .int .u64 c.ref, .int .u64 c.aux, .int .u64 c.prev, .int .u64 c.tag]) 29)) (.cells #[.slice none 0 0, .int .i64 0] 38)
  have n1 : ((w.alloc (.cells (#[.int .i64 c.firm, .int .i64 c.seq, .int .i64 c.time, .int .i64 c.kind, .int .i64 c.a, .int .u64 c.ref, .int .u64 c.aux, .int .u64 c.prev, .int .u64 c.tag]) 29)).alloc (.cells #[.slice none 0 0, .int .i64 0] 38)).heap[w.heap.size]? = some (.cells (#[.int .i64 c.firm, .int .i64 c.seq, .int .i64 c.time, .int .i64 c.kind, .int .i64 c.a, .int .u64 c.ref, .int .u64 c.aux, .int .u64 c.prev, .int .u64 c.tag]) 29) := by
    rw [Below.heap_alloc _ _ _ (by omega)]; exact heap_alloc_new w _
  have n2 : ((w.alloc (.cells (#[.int .i64 c.firm, .int .i64 c.seq, .int .i64 c.time, .int .i64 c.kind, .int .i64 c.a, .int .u64 c.ref, .int .u64 c.aux, .int .u64 c.prev, .int .u64 c.tag]) 29)).alloc (.cells #[.slice none 0 0, .int .i64 0] 38)).heap[w.heap.size + 1]? = some (.cells #[.slice none 0 0, .int .i64 0] 38) := by
    rw [← hz]; exact heap_alloc_new _ _
  exact ⟨IsCl.block n1, fun o => by simp only [World.frozen?, n1]; simp, by simp only [World.cell?, n2]; rfl, by simp only [World.cell?, n2]; rfl, fun o => by simp only [World.frozen?, n2]; simp, by omega,
    ((Below.refl _ w).alloc (Nat.le_refl _) _).alloc (by omega) _⟩
theorem pair_set (w : World) (b : Nat) (v0 v1 x0 x1 : Value) (h0 : w.cell? ⟨b, 0, none⟩ = some x0) (h1 : w.cell? ⟨b, 1, none⟩ = some x1) (V : World) (hV : V = (w.setCell ⟨b, 0, none⟩ v0).setCell ⟨b, 1, none⟩ v1) :
    V.cell? ⟨b, 0, none⟩ = some v0 ∧ V.cell? ⟨b, 1, none⟩ = some v1 ∧ (∀ B, B ≤ b → Below B w V) ∧ ∀ p : Addr, p.block ≠ b → V.cell? p = w.cell? p := by
  subst hV
  have hn : ∀ (p : Addr) (j : Nat), p.block ≠ b → (⟨b, j, none⟩ : Addr) ≠ p := fun p j h e => h (by rw [← e])
  refine ⟨by go_simp, by go_simp, fun B hB => ((Below.refl _ w).setCell (p := ⟨b, 0, none⟩) hB _).setCell (p := ⟨b, 1, none⟩) hB _, fun p hp => ?_⟩
  rw [World.cell?_setCell_other (h := hn p _ hp), World.cell?_setCell_other (h := hn p _ hp)]
theorem OwC.empty {w : World} {base : Nat} (hb : base ≤ w.heap.size) : OwC (w.alloc (.cells #[] 29)) base (.slice (some ⟨w.heap.size, 0, none⟩) 0 0) 0 [] := by
  refine ⟨rfl, .inr ⟨w.heap.size, 0, #[], rfl, hb, heap_alloc_new w _, Nat.le_refl _, by simp [maxLen], rfl, rfl⟩⟩
theorem OwC.zero {w : World} {base k : Nat} {v : Value} {xs : List Cl} (h : OwC w base v (0 + k) xs) : OwC w base v k xs := by rwa [Nat.zero_add] at h
/-- An append to an empty row. -/
theorem step_app0 {w : World} {ops : Array Oper} {o : Oper} {a : Act} {K : Act → World → Prop} {Q : Exit → Act → World → Prop} {E : Prop} (hgd : o.guard = none) (s x : Operand)
    (ho : o.op = .call { callee := .builtin .append, args := #[s, x], argTypes := #[33, 33] })
    (v : Value) (hs : a.eval s = v) (A : Option Addr) (m c : Nat) (hx : a.eval x = .slice A m c)
    (base B : Nat) (ys : List Cl) (hown : OwC w base v 0 []) (hr : SlC w B A m ys) (h1 : m ≤ 1000000) (hbase : base ≤ w.heap.size)
    (h : ∀ A' c' w', OwC w' base (.slice A' m c') m ys → w.grownBy w' v.ownBlock → ((Value.slice A' m c').ownBlock = v.ownBlock ∨ (Value.slice A' m c').ownBlock = some w.heap.size) → K (a.put o.dst (.slice A' m c')) w') :
    if Region.wanted o (yielded ops a.tmps) = true then Oper.wp Try.prog o a w K Q else E := by
  refine step_app hgd s x ho v hs A m c hx base 0 B [] ys hown hr (by omega) hbase (fun A' c' w' h2 h3 h4 => ?_)
  rw [Nat.zero_add] at h2 h4 ⊢
  rw [List.nil_append] at h2
  exact h A' c' w' h2 h3 h4
/-- A claim's own block outlives an append to another row. -/
theorem slc_grown {w w' : World} {B n g o : Nat} {xs : List Cl} {row : Option Nat} (h : SlC w B (some ⟨g, o, none⟩) n xs) (hg : w.grownBy w' row) (hz : g < w.heap.size) (hne : some g ≠ row) : SlC w' w'.heap.size (some ⟨g, o, none⟩) n xs := by
  obtain ⟨h1, h2⟩ := h
  refine ⟨h1, fun hn => ?_⟩
  obtain ⟨b, off, e, _, hc⟩ := h2 hn
  injection e with e
  injection e with e1 e2
  subst e1
  subst e2
  exact ⟨g, o, rfl, by have := hg.size; omega, fun k c hk => (hc k c hk).keep (fun q => hg.cell_far ⟨g, q, none⟩ hz hne)⟩
theorem claim_ii {w2 w3 : World} {c : Cl} (hg3 : ((w2.drew.alloc (.cells #[] 29)).alloc (.cells (#[.int .i64 c.firm, .int .i64 c.seq, .int .i64 c.time, .int .i64 c.kind, .int .i64 c.a, .int .u64 c.ref, .int .u64 c.aux, .int .u64 c.prev, .int .u64 c.tag]) 29)).grownBy w3 (Value.slice (some ⟨w2.heap.size, 0, none⟩) 0 0).ownBlock) : SlC w3 w3.heap.size (some ⟨w2.heap.size + 1, 0, none⟩) 1 [c] := by
  have h := slc_one (w2.drew.alloc (.cells #[] 29)) c
  have hz : (w2.drew.alloc (.cells #[] 29)).heap.size = w2.heap.size + 1 := World.size_alloc _ _
  rw [hz] at h
  have hz2 := World.size_alloc (w2.drew.alloc (.cells #[] 29)) (.cells (#[.int .i64 c.firm, .int .i64 c.seq, .int .i64 c.time, .int .i64 c.kind, .int .i64 c.a, .int .u64 c.ref, .int .u64 c.aux, .int .u64 c.prev, .int .u64 c.tag]) 29)
  exact slc_grown h hg3 (by omega) (fun e => by simp [Value.ownBlock] at e)
theorem claim_iii {w2 w3 : World} {c : Cl} (hg3 : ((w2.drew.alloc (.cells (#[.int .i64 c.firm, .int .i64 c.seq, .int .i64 c.time, .int .i64 c.kind, .int .i64 c.a, .int .u64 c.ref, .int .u64 c.aux, .int .u64 c.prev, .int .u64 c.tag]) 29)).alloc (.cells #[] 29)).grownBy w3 (Value.slice (some ⟨w2.heap.size + 1, 0, none⟩) 0 0).ownBlock) : SlC w3 w3.heap.size (some ⟨w2.heap.size, 0, none⟩) 1 [c] := by
  have hz : (w2.drew.alloc (.cells (#[.int .i64 c.firm, .int .i64 c.seq, .int .i64 c.time, .int .i64 c.kind, .int .i64 c.a, .int .u64 c.ref, .int .u64 c.aux, .int .u64 c.prev, .int .u64 c.tag]) 29)).heap.size = w2.heap.size + 1 := World.size_alloc _ _
  have hz2 := World.size_alloc (w2.drew.alloc (.cells (#[.int .i64 c.firm, .int .i64 c.seq, .int .i64 c.time, .int .i64 c.kind, .int .i64 c.a, .int .u64 c.ref, .int .u64 c.aux, .int .u64 c.prev, .int .u64 c.tag]) 29)) (.cells #[] 29)
  have h : SlC (w2.drew.alloc (.cells (#[.int .i64 c.firm, .int .i64 c.seq, .int .i64 c.time, .int .i64 c.kind, .int .i64 c.a, .int .u64 c.ref, .int .u64 c.aux, .int .u64 c.prev, .int .u64 c.tag]) 29)) (w2.heap.size + 1) (some ⟨w2.heap.size, 0, none⟩) 1 [c] := slc_one w2.drew c
  exact slc_grown (h.alloc (by omega) _) hg3 (by omega) (fun e => by simp [Value.ownBlock] at e)
theorem empty_iii (w2 : World) (c : Cl) : OwC ((w2.drew.alloc (.cells (#[.int .i64 c.firm, .int .i64 c.seq, .int .i64 c.time, .int .i64 c.kind, .int .i64 c.a, .int .u64 c.ref, .int .u64 c.aux, .int .u64 c.prev, .int .u64 c.tag]) 29)).alloc (.cells #[] 29)) w2.heap.size (.slice (some ⟨w2.heap.size + 1, 0, none⟩) 0 0) 0 [] := by
  have hz : (w2.drew.alloc (.cells (#[.int .i64 c.firm, .int .i64 c.seq, .int .i64 c.time, .int .i64 c.kind, .int .i64 c.a, .int .u64 c.ref, .int .u64 c.aux, .int .u64 c.prev, .int .u64 c.tag]) 29)).heap.size = w2.heap.size + 1 := World.size_alloc _ _
  have h := OwC.empty (w := w2.drew.alloc (.cells (#[.int .i64 c.firm, .int .i64 c.seq, .int .i64 c.time, .int .i64 c.kind, .int .i64 c.a, .int .u64 c.ref, .int .u64 c.aux, .int .u64 c.prev, .int .u64 c.tag]) 29)) (base := w2.heap.size) (by omega)
  rw [hz] at h
  exact h
theorem three_sizes (w2 : World) (o1 o2 : Obj) : (w2.drew.alloc o1).heap.size = w2.heap.size + 1 ∧ ((w2.drew.alloc o1).alloc o2).heap.size = w2.heap.size + 2 := by
  have h1 : (w2.drew.alloc o1).heap.size = w2.heap.size + 1 := World.size_alloc _ _
  have h2 := World.size_alloc (w2.drew.alloc o1) o2
  exact ⟨h1, by omega⟩
theorem size_one (w2 : World) (o1 : Obj) : w2.heap.size ≤ (w2.drew.alloc o1).heap.size := by rw [(three_sizes w2 o1 o1).1]; omega
theorem size_two (w2 : World) (o1 o2 : Obj) : w2.heap.size ≤ ((w2.drew.alloc o1).alloc o2).heap.size := by rw [(three_sizes w2 o1 o2).2]; omega
theorem size_more {w2 w3 : World} (h : Below w2.heap.size w2 w3) (o1 : Obj) : w2.heap.size ≤ (w3.alloc o1).heap.size := by have := h.size; rw [World.size_alloc]; omega
theorem slc_two {w2 : World} {A : Option Addr} {n : Nat} {xs : List Cl} (h : SlC w2 w2.heap.size A n xs) (o1 o2 : Obj) : SlC ((w2.drew.alloc o1).alloc o2) w2.heap.size A n xs := by
  have h0 : SlC w2.drew w2.heap.size A n xs := h
  have h1 := h0.alloc (Nat.le_refl w2.heap.size) o1
  exact h1.alloc (by rw [(three_sizes w2 o1 o2).1]; omega) o2
theorem slc_one0 {w2 : World} {A : Option Addr} {n : Nat} {xs : List Cl} (h : SlC w2 w2.heap.size A n xs) (o1 : Obj) : SlC (w2.drew.alloc o1) w2.heap.size A n xs := by
  have h0 : SlC w2.drew w2.heap.size A n xs := h
  exact h0.alloc (Nat.le_refl w2.heap.size) o1
theorem below_one (w2 : World) (o1 : Obj) : Below w2.heap.size w2 (w2.drew.alloc o1) := by
  have h0 : Below w2.heap.size w2 w2.drew := (Below.refl _ w2).drew
  exact h0.alloc (Nat.le_refl w2.heap.size) o1
theorem below_two (w2 : World) (o1 o2 : Obj) : Below w2.heap.size w2 ((w2.drew.alloc o1).alloc o2) := by
  have h0 : Below w2.heap.size w2 w2.drew := (Below.refl _ w2).drew
  have h1 := h0.alloc (Nat.le_refl w2.heap.size) o1
  exact h1.alloc (by rw [(three_sizes w2 o1 o2).1]; omega) o2

set_option maxRecDepth 100000 in
set_option maxHeartbeats 2000000 in
theorem append3_any (A : Option Addr) (n ca : Nat) (key : Int) (xs : List Cl) (c : Cl) (w : World) (ha : SlC w w.heap.size A n xs) (hn : n ≤ 999) (hca : n ≤ ca) :
    Calls Try.prog 14 #[.slice A n ca, .int .u64 key, .agg #[.int .i64 c.firm, .int .i64 c.seq, .int .i64 c.time, .int .i64 c.kind, .int .i64 c.a, .int .u64 c.ref, .int .u64 c.aux, .int .u64 c.prev, .int .u64 c.tag]] w (AddPost key A n ca xs c w) := by
  have Ha := hide ha; clear ha
  go_enter Try.func14, Try.ntmps14
  go_upto_if 11 with (fail)
  refine (most_any _).mono ?_
  rintro e w1 ⟨rfl, hb1⟩
  have l1 := (A3In.start w c).below hb1
  have L1 := hide l1; clear hb1
  obtain ⟨b0, b1, b2, b3, b4, b5, b6, b7, b8⟩ := l1.1.at0
  have hf := l1.2.1
  clear l1
  go_upto_if 21 with (fail)
  go_cut [28] (fun _ wx => A3In w wx (linkC xs c))
  case first =>
    have l2 := (L1.out.set1 ((n : Int) + 1)).set7 0
    rcases Nat.eq_zero_or_pos n with h0 | h0
    · subst h0
      have hx : xs = [] := List.eq_nil_of_length_eq_zero Ha.out.1
      subst hx
      go_wp2_with fail
      go_meet
      exact l2
    · obtain ⟨m, rfl⟩ : ∃ m, n = m + 1 := ⟨n - 1, by omega⟩
      obtain ⟨b, off, d, rfl, hb, hx, hc⟩ := Ha.out.at_ (k := m) (by omega)
      have Hx := hide hx; clear hx
      have hlw : Below w.heap.size w ((w1.setCell ⟨w.heap.size, 1, none⟩ (.int .i64 (((m + 1 : Nat) : Int) + 1))).setCell ⟨w.heap.size, 7, none⟩ (.int .u64 0)) := l2.2.2.2.2.2.2
      obtain ⟨wx, hwx⟩ : ∃ V, V = ((w1.setCell ⟨w.heap.size, 1, none⟩ (.int .i64 (((m + 1 : Nat) : Int) + 1))).setCell ⟨w.heap.size, 7, none⟩ (.int .u64 0)) := ⟨_, rfl⟩
      rw [← hwx] at l2 hlw
      rw [← hwx]
      obtain ⟨g0, g1, g2, g3, g4, g5, g6, g7, g8⟩ := hc.keep (w' := wx) (fun o => hlw.cell (p := ⟨b, o, none⟩) hb)
      have L2 := hide l2; clear l2
      clear b0 b1 b2 b3 b4 b5 b6 b7 b8 hf hwx hc hlw L1
      go_wp2_with fail
      refine (digest3_any d _).mono ?_
      rintro e w2 ⟨rfl, hb2⟩
      have l3 := L2.out.below hb2
      have L3 := hide l3
      obtain ⟨b0, b1, b2, b3, b4, b5, b6, b7, b8⟩ := l3.1.at0
      have hf := l3.2.1
      dsimp only at b0 b1 b2 b3 b4 b5 b6 b7 b8
      clear l3 hb2 g0 g1 g2 g3 g4 g5 g6 g7 g8 L2
      go_wp2_with fail
      go_meet
      have hl := Ha.out.1
      have e1 : prevD xs = digC d := by
        have : lastC xs = d := by
          have h2 := Hx.out
          rw [lastC, List.getLast?_eq_getElem?, hl]
          simp only [Nat.add_sub_cancel]
          rw [h2]; rfl
        rw [prevD, if_neg (by omega), this]
      have l4 := L3.out.set7 (digC d)
      rw [linkC, e1, hl]
      exact l4
  case rest =>
    have l2 := hcut
    obtain ⟨b0, b1, b2, b3, b4, b5, b6, b7, b8⟩ := l2.1.at0
    have hf := l2.2.1
    have L2 := hide l2
    clear l2 hcut L1
    go_wp2_with fail
    refine (tag3_any key (linkC xs c) _).mono ?_
    rintro e w1 ⟨rfl, hb1⟩
    have l3 := (L2.out.below hb1)
    clear b0 b1 b2 b3 b4 b5 b6 b7 b8 hf L2 hb1
    obtain ⟨b0, b1, b2, b3, b4, b5, b6, b7, b8⟩ := l3.1.at0
    have hf := l3.2.1
    have l4 : A3In w _ (nextC key xs c) := l3.set8 (tagC key (linkC xs c))
    have L3 := hide l3; clear l3
    have L4 := hide l4; clear l4
    go_upto_region 8 with (fail)
    obtain ⟨w2, hw2⟩ : ∃ V, V = w1.setCell ⟨w.heap.size, 8, none⟩ (.int .u64 (tagC key (linkC xs c))) := ⟨_, rfl⟩
    rw [← hw2] at L4 ⊢
    clear b0 b1 b2 b3 b4 b5 b6 b7 b8 hf L3 hw2
    have hsz := L4.out.2.2.2.2.2.1
    have hlw := L4.out.2.2.2.2.2.2
    have Hs := hide ((Ha.out.below hlw).more (B' := w2.heap.size) (by omega))
    have hws : w.heap.size ≤ w2.heap.size := by omega
    have Q2 := hide (L4.out.1)
    have Hz2 := hide (show w.heap.size < w2.heap.size by omega)
    clear hlw
    go_cut [7] (fun v wx => ∃ A' c', v = .slice A' (n + 1) c' ∧ SlC wx wx.heap.size A' (n + 1) (xs ++ [nextC key xs c]) ∧ Below w2.heap.size w2 wx ∧ (∀ ad, A' = some ad → w.heap.size + 1 < ad.block) ∧ n + 1 ≤ c')
    case first =>
      go_region_held3 (fun w' => w'.cell? ⟨w.heap.size, 0, none⟩ = some (.int .i64 (nextC key xs c).firm) ∧ w'.cell? ⟨w.heap.size, 1, none⟩ = some (.int .i64 (nextC key xs c).seq) ∧ w'.cell? ⟨w.heap.size, 2, none⟩ = some (.int .i64 (nextC key xs c).time) ∧ w'.cell? ⟨w.heap.size, 3, none⟩ = some (.int .i64 (nextC key xs c).kind) ∧ w'.cell? ⟨w.heap.size, 4, none⟩ = some (.int .i64 (nextC key xs c).a) ∧ w'.cell? ⟨w.heap.size, 5, none⟩ = some (.int .u64 (nextC key xs c).ref) ∧ w'.cell? ⟨w.heap.size, 6, none⟩ = some (.int .u64 (nextC key xs c).aux) ∧ w'.cell? ⟨w.heap.size, 7, none⟩ = some (.int .u64 (nextC key xs c).prev) ∧ w'.cell? ⟨w.heap.size, 8, none⟩ = some (.int .u64 (nextC key xs c).tag) ∧ Below w2.heap.size w2 w')
        ((go_split_ands; refine keepS ?_ Q2.out Hz2.out; first | exact (Below.refl _ _).drew | assumption | exact Below.alloc hB3 hB3.size _ | exact Below.alloc ((Below.refl _ _).drew) (Nat.le_refl _) _ | exact Below.alloc (Below.alloc ((Below.refl _ _).drew) (Nat.le_refl _) _) (by simp) _))
        (first
          | ((with_reducible refine step_app0 ?_ (.tmp 34) (.tmp 35) ?_ (.slice (some ⟨w2.heap.size, 0, none⟩) 0 0) ?_ A n ca ?_ w2.heap.size w2.heap.size xs ?_ ?_ ?_ ?_ ?_); (focus rfl); (focus rfl); (focus rfl); (focus rfl); (focus exact (OwC.empty (w := w2.drew) (Nat.le_refl _))); (focus exact (slc_one0 Hs.out _)); (focus omega); (focus exact size_one w2 _); intro A3 c3 w3 ho3 hg3 hat3; have hB3 : Below w2.heap.size w2 w3 := Below.grown (below_one w2 _) hg3 (size_one w2 _) (OwC.row (OwC.empty (w := w2.drew) (Nat.le_refl _))))
          | ((with_reducible refine step_app0 ?_ (.tmp 34) (.tmp 35) ?_ (.slice (some ⟨w2.heap.size, 0, none⟩) 0 0) ?_ A n ca ?_ w2.heap.size w2.heap.size xs ?_ ?_ ?_ ?_ ?_); (focus rfl); (focus rfl); (focus rfl); (focus rfl); (focus exact ((OwC.empty (w := w2.drew) (Nat.le_refl _)).allocd _)); (focus exact (slc_two Hs.out _ _)); (focus omega); (focus exact size_two w2 _ _); intro A3 c3 w3 ho3 hg3 hat3; have hB3 : Below w2.heap.size w2 w3 := Below.grown (below_two w2 _ _) hg3 (size_two w2 _ _) (OwC.row (OwC.empty (w := w2.drew) (Nat.le_refl _))))
          | ((with_reducible refine step_app0 ?_ (.tmp 34) (.tmp 35) ?_ (.slice (some ⟨w2.heap.size + 1, 0, none⟩) 0 0) ?_ A n ca ?_ w2.heap.size w2.heap.size xs ?_ ?_ ?_ ?_ ?_); (focus rfl); (focus rfl); (focus rfl); (focus rfl); (focus exact (empty_iii w2 _)); (focus exact (slc_two Hs.out _ _)); (focus omega); (focus exact size_two w2 _ _); intro A3 c3 w3 ho3 hg3 hat3; have hB3 : Below w2.heap.size w2 w3 := Below.grown (below_two w2 _ _) hg3 (size_two w2 _ _) (OwC.row (empty_iii w2 (nextC key xs c))))
          | ((with_reducible refine step_app ?_ (.tmp 36) (.tmp 38) ?_ (.slice A3 n c3) ?_ (some ⟨w3.heap.size, 0, none⟩) 1 1 ?_ w2.heap.size n (w3.heap.size + 1) xs [nextC key xs c] ?_ ?_ ?_ ?_ ?_); (focus rfl); (focus rfl); (focus rfl); (focus rfl); (focus exact (ho3.allocd _)); (focus exact (slc_one w3 _)); (focus omega); (focus exact size_more hB3 _); intro A4 c4 w4 ho4 hg4 hat4; have hB4 : Below w2.heap.size w2 w4 := (hB3.alloc hB3.size _).grown hg4 (size_more hB3 _) (ho3.row))
          | ((with_reducible refine step_app ?_ (.tmp 36) (.tmp 38) ?_ (.slice A3 n c3) ?_ (some ⟨w2.heap.size + 1, 0, none⟩) 1 1 ?_ w2.heap.size n w3.heap.size xs [nextC key xs c] ?_ ?_ ?_ ?_ ?_); (focus rfl); (focus rfl); (focus rfl); (focus rfl); (focus exact ho3); (focus exact (claim_ii hg3)); (focus omega); (focus exact hB3.size); intro A4 c4 w4 ho4 hg4 hat4; have hB4 : Below w2.heap.size w2 w4 := hB3.grown hg4 hB3.size (ho3.row))
          | ((with_reducible refine step_app ?_ (.tmp 36) (.tmp 38) ?_ (.slice A3 n c3) ?_ (some ⟨w2.heap.size, 0, none⟩) 1 1 ?_ w2.heap.size n w3.heap.size xs [nextC key xs c] ?_ ?_ ?_ ?_ ?_); (focus rfl); (focus rfl); (focus rfl); (focus rfl); (focus exact ho3); (focus exact (claim_iii hg3)); (focus omega); (focus exact hB3.size); intro A4 c4 w4 ho4 hg4 hat4; have hB4 : Below w2.heap.size w2 w4 := hB3.grown hg4 hB3.size (ho3.row))
          | fail)
      all_goals
        go_wp2_with fail
        go_meet
        refine ⟨A4, c4, rfl, ho4.slc, hB4, fun ad e => ?_, ho4.cap_le⟩
        subst e
        have hr4 := ho4.row ad.block rfl
        exact Nat.lt_of_lt_of_le hsz hr4
    case rest =>
      obtain ⟨A4, c4, rfl, hs4, hb4, hn4, hcp4⟩ := hcut
      have L5 := hide (L4.out.below hb4)
      have Hn4 := hide hn4; clear hn4
      have Hs4 := hide hs4; clear hs4
      have hbw := hb4.mono hws
      have Hsa := hide ((Hs.out.below hb4).more hb4.size)
      clear hb4 hbw
      obtain ⟨b0, b1, b2, b3, b4, b5, b6, b7, b8⟩ := L5.out.1.at0
      go_wp2_with fail
      refine (check3_any A4 (n + 1) c4 key (nextC key xs c).firm (xs ++ [nextC key xs c]) _ Hs4.out (by omega) hcp4).mono ?_
      rintro e w5 ⟨rfl, hb5⟩
      have l6 := L5.out.below hb5
      have Hs5 := hide ((Hs4.out.below hb5).more hb5.size)
      have Hsa5 := hide ((Hsa.out.below hb5).more hb5.size)
      clear hb5 b0 b1 b2 b3 b4 b5 b6 b7 b8
      have q0 := l6.2.2.1
      have q1 := l6.2.2.2.1
      have qf := l6.2.2.2.2.1
      have hz6 := l6.2.2.2.2.2.1
      have Hb6 := hide l6.2.2.2.2.2.2
      have hfirm : (nextC key xs c).firm = c.firm := rfl
      clear l6
      rcases Bool.eq_false_or_eq_true (chkF key (nextC key xs c).firm (xs ++ [nextC key xs c])) with hq | hq
      · have Hq := hide hq
        rw [hq, if_pos rfl]; clear hq
        go_wp2
        obtain ⟨V, hV⟩ : ∃ V, V = (w5.setCell ⟨w.heap.size + 1, 0, none⟩ (.slice A4 (n + 1) c4)).setCell ⟨w.heap.size + 1, 1, none⟩ (.int .i64 0) := ⟨_, rfl⟩
        obtain ⟨v0, v1, vb, vk⟩ := pair_set w5 (w.heap.size + 1) _ _ _ _ q0 q1 V hV
        rw [← hV]
        clear hV q0 q1 qf
        refine bodyPost_ret (v := .agg #[.slice A4 (n + 1) c4, .int .i64 0]) (by simp [results, Try.results14, go_sem, v0, v1]) rfl ⟨Hb6.out.trans (vb _ (by omega)), A4, n + 1, c4, _, _, rfl, ⟨?_, .inl ⟨Hq.out, rfl, rfl, rfl, hcp4⟩⟩, fun _ ad e => by have := Hn4.out ad e; omega⟩
        exact Hs5.out.keepAt (fun ad e o => vk ⟨ad.block, o, none⟩ (by have := Hn4.out ad e; show ad.block ≠ w.heap.size + 1; omega)) (vb _ (Nat.le_refl _)).size
      · have Hq := hide hq
        rw [hq, if_neg Bool.false_ne_true]; clear hq
        go_wp2
        obtain ⟨V, hV⟩ : ∃ V, V = (w5.setCell ⟨w.heap.size + 1, 0, none⟩ (.slice A n ca)).setCell ⟨w.heap.size + 1, 1, none⟩ (.int .i64 410) := ⟨_, rfl⟩
        obtain ⟨v0, v1, vb, vk⟩ := pair_set w5 (w.heap.size + 1) _ _ _ _ q0 q1 V hV
        rw [← hV]
        clear hV q0 q1 qf
        refine bodyPost_ret (v := .agg #[.slice A n ca, .int .i64 410]) (by simp [results, Try.results14, go_sem, v0, v1]) rfl ⟨Hb6.out.trans (vb _ (by omega)), A, n, ca, _, _, rfl, ⟨?_, .inr ⟨Hq.out, rfl, rfl, rfl, rfl, rfl⟩⟩, fun h => absurd h (by decide)⟩
        exact (Ha.out.below (Hb6.out.trans (vb _ (by omega)))).more (by have := (Hb6.out.trans (vb _ (by omega))).size; omega)
end Go.Proofs.Ythpbjceajnaokaa
