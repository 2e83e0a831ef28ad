/- Loads, stores, appends by whole boxes, inside a fence. No condition. -/
import Derived.RangeFuncNested
import Derived.RangeFuncBound
import Derived.RangeFuncCalls
import Derived.RangeFuncLeaves
import Derived.RangeFuncBox
import Derived.Shelf.Abstract
import Derived.Shelf.RegionOpen
import Derived.OwnWalkIn
import Derived.TacticsInMore
import Derived.LoopNIn
import Derived.LoopIn
import Derived.Maps.AppendAt
import Derived.Test.YthhfakkfdohcpaaGreatM02
import Derived.Test.YthhfakkfdohcpaaGreatM01
namespace Go.Proofs.YthhfakkfdohcpaaGreat
open Go.RowKit Go.Shelf
variable {F : Fence} {n : Nat} {ops : Array Oper} {rest : List Oper} {o : Oper} {a : Act} {w : World} {Q : Exit → Act → World → Prop}
theorem wpIn_of_value {P : Program} {K : Act → World → Prop} {v : Value} {w' : World} (hc : ∀ c, o.op ≠ .call c) (hd : ∀ c, o.op ≠ .defer c) (hrun : (execOp a.eval o).run P w = .ok (.value v) w') (h : K (a.put o.dst v) w') : o.wpIn F n P a w K Q := by
  unfold Oper.wpIn
  refine ⟨fun f hf => ?_, ?_⟩
  · exfalso
    unfold Oper.about at hf
    split at hf
    · rename_i c hop
      exact hc c hop
    · cases hf
  · rw [Oper.semAt_plain F _ _ hd, hrun]
    exact h
theorem wpIn_of_skip {P : Program} {K : Act → World → Prop} {w' : World} (hc : ∀ c, o.op ≠ .call c) (hd : ∀ c, o.op ≠ .defer c) (hrun : (execOp a.eval o).run P w = .ok .skip w') (h : K (a.put o.dst undef) w') : o.wpIn F n P a w K Q := by
  unfold Oper.wpIn
  refine ⟨fun f hf => ?_, ?_⟩
  · exfalso
    unfold Oper.about at hf
    split at hf
    · rename_i c hop
      exact hc c hop
    · cases hf
  · rw [Oper.semAt_plain F _ _ hd, hrun]
    exact h
theorem wpListIn_load_mid {P0 : Program} (hP : P0 = Tryz.prog) (hg : o.guard = none) (ty : TypeId) (x : Operand) (ho : o.op = .load ty x)
    (b off : Nat) (hx : a.eval x = .pointer (some ⟨b, off, none⟩)) (cs : List Value) (d : TypeDesc) (hc : w.rangeAt b off cs)
    (hu : Tryz.prog.underlying ty = some d) (hd : d.isRow = true) (hi : (Tryz.prog.info? ty).map (·.size) = some cs.length)
    (h : wpListIn F n P0 ops Q rest (a.put o.dst (.agg cs.toArray)) w) : wpListIn F n P0 ops Q (o :: rest) a w := by
  subst hP
  refine wpListIn_plain hg fun K hK => ?_
  refine wpIn_of_value (by rw [ho]; intro c e; cases e) (by rw [ho]; intro c e; cases e) (v := .agg cs.toArray) (w' := w) ?_ (hK _ _ h)
  simp only [execOp, ho, hx, Instr.loadAt, Instr.sureAddr, Sem.run_bind, Sem.run_pure, Result.andThen_ok, run_loadVar_mid w b off ty cs d hc hu hd hi]
theorem wpListIn_store_new {P0 : Program} (hP : P0 = Tryz.prog) (hg : o.guard = none) (hd : o.dst = none) (ty : TypeId) (x y : Operand) (ho : o.op = .store ty x y)
    {A : List Value} {t : TypeId} (cs : List Value) (hx : a.eval x = .pointer (some ⟨w.heap.size, 0, none⟩)) (hy : a.eval y = .agg cs.toArray) (hl : A.length = cs.length) (hi : (Tryz.prog.info? ty).map (·.size) = some cs.toArray.size) (h1 : ∀ v ∈ cs, v.oneCell' = true)
    (h : ∀ V, BoxAt V w.heap.size cs → Below w.heap.size w V → wpListIn F n P0 ops Q rest a V) : wpListIn F n P0 ops Q (o :: rest) a (w.alloc (.cells A.toArray t)) := by
  subst hP
  have B := BoxAt.new w A t
  refine wpListIn_plain hg fun K hK => ?_
  refine wpIn_of_skip (by rw [ho]; intro c e; cases e) (by rw [ho]; intro c e; cases e) (w' := (w.alloc (.cells A.toArray t)).setCells w.heap.size 0 cs.toArray.toList) ?_ ?_
  · simp only [execOp, ho, hx, hy, Instr.storeAt, Instr.sureAddr, Sem.run_bind, Sem.run_pure, Result.andThen_ok, run_storeVar_mid _ w.heap.size 0 ty cs.toArray (B.there 0 _ (by simp; omega)) hi (all_oneCell_toArray h1)]
  · rw [hd]
    refine hK _ _ (h _ (B.put 0 _ _ (by simp; omega) ?_) (Below.setCells (Nat.le_refl _) _ _ _ ((Below.refl _ w).alloc (Nat.le_refl _) _)))
    rw [List.drop_eq_nil_of_le (by simp; omega)]
    simp
theorem wpListIn_buildSlice_one {P0 : Program} (hP : P0 = Tryz.prog) (hg : o.guard = none) (t e : TypeId) (size bytes : Nat) (hE : ElemOf t e size bytes) (x : Operand) (ho : o.op = .buildSlice t 1 #[(0, x)])
    (v : Value) (cs : List Value) (hx : a.eval x = v) (hv : v.cells = cs.toArray) (hl : cs.length = size) (hs : size ≤ 10000)
    (h : ∀ g V, BoxAt V g cs → w.heap.size ≤ g → Below w.heap.size w V → KeepsOthers w V → wpListIn F n P0 ops Q rest (a.put o.dst (.slice (some ⟨g, 0, none⟩) 1 1)) V) : wpListIn F n P0 ops Q (o :: rest) a w := by
  subst hP
  refine wpListIn_plain hg fun K hK => ?_
  have hrun := run_buildSlice_one w t e size bytes hE v cs hv hl hs
  refine wpIn_of_value (by rw [ho]; intro c e; cases e) (by rw [ho]; intro c e; cases e) (v := .slice (some ⟨w.heap.size, 0, none⟩) 1 1) (w' := w.alloc (.cells cs.toArray e)) ?_ (hK _ _ (h _ _ (BoxAt.new w cs e) (Nat.le_refl _) ((Below.refl _ w).alloc (Nat.le_refl _) _) (KeepsOthers.alloc _ _)))
  simp only [execOp, ho, List.map_toArray, List.map_cons, List.map_nil, hx, Sem.run_bind, Result.andThen, hrun, Sem.run_pure]
theorem wpListIn_append_to {P0 : Program} (hP : P0 = Tryz.prog) (hg : o.guard = none) (s x : Operand) (t e : TypeId) (size bytes : Nat) (hE : ElemOf t e size bytes)
    (ho : o.op = .call { callee := .builtin .append, args := #[s, x], argTypes := #[t, t] })
    (B : Nat) (v : Value) (k : Nat) (xs : List Value) (hs : a.eval s = v) (hown : w.ownsRow B e size v k xs)
    (g m c : Nat) (news : List Value) (hx : a.eval x = .slice (some ⟨g, 0, none⟩) m c) (hN : BoxAt w g news) (hl : news.length = m * size) (h1 : ∀ u ∈ news, u.oneCell' = true) (hm : 0 < m) (hn : k + m ≤ 10000) (hB : B ≤ w.heap.size)
    (h : ∀ g' cap w', Apd w w' B e size v (.slice (some ⟨g', 0, none⟩) (k + m) cap) (k + m) (xs ++ news) g' cap → wpListIn F n P0 ops Q rest (a.put o.dst (.slice (some ⟨g', 0, none⟩) (k + m) cap)) w') : wpListIn F n P0 ops Q (o :: rest) a w := by
  subst hP
  refine wpListIn_plain hg fun K hK => ?_
  obtain ⟨g', cap, w', hr, hA⟩ := run_append_to w t o.type e size bytes hE B v k xs hown g m c news hN hl h1 hm hn hB
  unfold Oper.wpIn
  refine ⟨?_, ?_⟩
  · simp [Oper.about, ho, resolve, Target.leads, Sem.run_pure]
  · rw [Oper.semAt_plain F _ _ (by rw [ho]; intro c hc'; cases hc')]
    simp only [execOp, ho, resolve, invoke, builtin, Sem.run_bind, Sem.run_pure, Result.andThen_ok, List.map_toArray, List.map_cons, List.map_nil, hs, hx, hr]
    exact hK _ _ (h g' cap w' hA)
theorem wpListIn_build2 {P0 : Program} (hP : P0 = Tryz.prog) (hg : o.guard = none) (t : TypeId) (i j : Nat) (x y : Operand) (ho : o.op = .build t #[(i, x), (j, y)]) (u v r : Value) (hx : a.eval x = u) (hy : a.eval y = v)
    (hrun : (Instr.build t #[(i, u), (j, v)]).run Tryz.prog w = .ok r w) (h : wpListIn F n P0 ops Q rest (a.put o.dst r) w) : wpListIn F n P0 ops Q (o :: rest) a w := by
  subst hP
  refine wpListIn_plain hg fun K hK => ?_
  refine wpIn_of_value (by rw [ho]; intro c e; cases e) (by rw [ho]; intro c e; cases e) (v := r) (w' := w) ?_ (hK _ _ h)
  simp only [execOp, ho, List.map_toArray, List.map_cons, List.map_nil, hx, hy, Sem.run_bind, Result.andThen, hrun, Sem.run_pure]
theorem setCells_alloc (t : TypeId) : ∀ (vs : List Value) (o : Nat) (A : List Value), o + vs.length ≤ A.length →
    (w.alloc (.cells A.toArray t)).setCells w.heap.size o vs = w.alloc (.cells (A.take o ++ vs ++ A.drop (o + vs.length)).toArray t)
  | [], o, A, h => by simp [World.setCells]
  | v :: r, o, A, h => by
    simp only [List.length_cons] at h
    rw [World.setCells, World.setCell_alloc_new]
    have e : A.toArray.setIfInBounds o v = (A.take o ++ [v] ++ A.drop (o + 1)).toArray := by
      apply Array.ext_getElem?
      intro i
      simp only [List.setIfInBounds_toArray, List.getElem?_toArray, List.getElem?_set]
      have hl : (A.take o).length = o := by simp; omega
      by_cases h1 : i < o
      · rw [if_neg (by omega), List.append_assoc, List.getElem?_append_left (by omega), List.getElem?_take, if_pos h1]
      · by_cases h2 : i = o
        · subst h2
          rw [if_pos rfl, if_pos (by omega), List.append_assoc, List.getElem?_append_right (by omega), hl]
          simp
        · rw [if_neg (by omega), List.append_assoc, List.getElem?_append_right (by omega), hl, List.getElem?_append_right (by simp; omega), List.getElem?_drop]
          congr 1
          simp
          omega
    rw [e, setCells_alloc t r (o + 1) (A.take o ++ [v] ++ A.drop (o + 1)) (by simp; omega)]
    congr 2
    have hl : (A.take o ++ [v]).length = o + 1 := by simp; omega
    have e1 : (A.take o ++ [v] ++ A.drop (o + 1)).take (o + 1) = A.take o ++ [v] := by
      rw [List.take_append_of_le_length (by omega), List.take_of_length_le (by omega)]
    have e2 : (A.take o ++ [v] ++ A.drop (o + 1)).drop (o + 1 + r.length) = A.drop (o + (v :: r).length) := by
      rw [List.drop_append, List.drop_eq_nil_of_le (by omega), List.nil_append, hl, List.drop_drop]
      congr 1
      simp only [List.length_cons]
      omega
    rw [e1, e2]
    simp
/-- A block as it was made. -/
def RawAt (W : World) (g : Nat) (vs : List Value) (t : TypeId) : Prop := W.heap[g]? = some (.cells vs.toArray t (0, 0))
theorem RawAt.box {W : World} {g : Nat} {vs : List Value} {t : TypeId} (h : RawAt W g vs t) : BoxAt W g vs :=
  ⟨fun i v hv => by simp only [World.cell?, show W.heap[g]? = _ from h]; simpa using hv, fun o => by simp only [World.frozen?, show W.heap[g]? = _ from h]; simp, (Array.getElem?_eq_some_iff.1 h).1⟩
theorem wpListIn_store_raw {P0 : Program} (hP : P0 = Tryz.prog) (hg : o.guard = none) (hd : o.dst = none) (ty : TypeId) (x y : Operand) (ho : o.op = .store ty x y)
    {A : List Value} {t : TypeId} (cs : List Value) (hx : a.eval x = .pointer (some ⟨w.heap.size, 0, none⟩)) (hy : a.eval y = .agg cs.toArray) (hl : A.length = cs.length) (hi : (Tryz.prog.info? ty).map (·.size) = some cs.toArray.size) (h1 : ∀ v ∈ cs, v.oneCell' = true)
    (h : ∀ V, RawAt V w.heap.size cs t → V.heap.size = w.heap.size + 1 → Below w.heap.size w V → KeepsOthers w V → wpListIn F n P0 ops Q rest a V) : wpListIn F n P0 ops Q (o :: rest) a (w.alloc (.cells A.toArray t)) := by
  subst hP
  have B := BoxAt.new w A t
  refine wpListIn_plain hg fun K hK => ?_
  refine wpIn_of_skip (by rw [ho]; intro c e; cases e) (by rw [ho]; intro c e; cases e) (w' := w.alloc (.cells cs.toArray t)) ?_ ?_
  · simp only [execOp, ho, hx, hy, Instr.storeAt, Instr.sureAddr, Sem.run_bind, Sem.run_pure, Result.andThen_ok, run_storeVar_mid _ w.heap.size 0 ty cs.toArray (B.there 0 _ (by simp; omega)) hi (all_oneCell_toArray h1)]
    rw [setCells_alloc t _ 0 A (by simp; omega)]
    simp only [Nat.zero_add, List.take_zero, List.nil_append]
    rw [List.drop_eq_nil_of_le (by omega), List.append_nil]
  · rw [hd]
    exact hK _ _ (h _ (heap_alloc_new w _) (World.size_alloc _ _) ((Below.refl _ w).alloc (Nat.le_refl _) _) (KeepsOthers.alloc _ _))
end Go.Proofs.YthhfakkfdohcpaaGreat
/- A pair is noted; locks are taken while one is held. No condition. -/
namespace Go.Proofs.YthhfakkfdohcpaaGreat
open Go.RowKit
/-- Which locks are taken while which is held: the examples' pairs. -/
def Held (x y may bit : Int) : Prop := x = 0 ∧ may = 1 ∧ y = 1 ∧ bit = 2 ∨ x = 1 ∧ may = 2 ∧ y = 0 ∧ bit = 1 ∨ x = 1 ∧ may = 2 ∧ y = 2 ∧ bit = 4
theorem bit_hit {x y may bit : Int} (h : Held x y may bit) {k : Nat} (hk : (k : Int) = x) : bits BinOp.and IntKind.i64 (may / 2 ^ k) 1 = 1 := by
  rcases h with ⟨rfl, rfl, -⟩ | ⟨rfl, rfl, -⟩ | ⟨rfl, rfl, -⟩
  · obtain rfl : k = 0 := by omega
    rfl
  · obtain rfl : k = 1 := by omega
    rfl
  · obtain rfl : k = 1 := by omega
    rfl
theorem bit_hit' {x y may bit : Int} (h : Held x y may bit) {k : Nat} (hk : (k : Int) = y) : bits BinOp.and IntKind.i64 (bit / 2 ^ k) 1 = 1 := by
  rcases h with ⟨-, -, rfl, rfl⟩ | ⟨-, -, rfl, rfl⟩ | ⟨-, -, rfl, rfl⟩
  · obtain rfl : k = 1 := by omega
    rfl
  · obtain rfl : k = 0 := by omega
    rfl
  · obtain rfl : k = 2 := by omega
    rfl
theorem bit_miss {x y may bit : Int} (h : Held x y may bit) {k : Nat} (hk : ¬ (k : Int) = x) (h8 : k < 8) : bits BinOp.and IntKind.i64 (may / 2 ^ k) 1 = 0 := by
  obtain rfl | rfl | rfl | rfl | rfl | rfl | rfl | rfl : k = 0 ∨ k = 1 ∨ k = 2 ∨ k = 3 ∨ k = 4 ∨ k = 5 ∨ k = 6 ∨ k = 7 := by omega
  all_goals rcases h with ⟨rfl, rfl, -⟩ | ⟨rfl, rfl, -⟩ | ⟨rfl, rfl, -⟩ <;> first | rfl | (exfalso; omega)
theorem bit_miss' {x y may bit : Int} (h : Held x y may bit) {k : Nat} (hk : ¬ (k : Int) = y) (h8 : k < 8) : bits BinOp.and IntKind.i64 (bit / 2 ^ k) 1 = 0 := by
  obtain rfl | rfl | rfl | rfl | rfl | rfl | rfl | rfl : k = 0 ∨ k = 1 ∨ k = 2 ∨ k = 3 ∨ k = 4 ∨ k = 5 ∨ k = 6 ∨ k = 7 := by omega
  all_goals rcases h with ⟨-, -, rfl, rfl⟩ | ⟨-, -, rfl, rfl⟩ | ⟨-, -, rfl, rfl⟩ <;> first | rfl | (exfalso; omega)
theorem step_miss {x y may bit : Int} (_h : Held x y may bit) {k j : Nat} {a b : Prop} (hm : ¬ ((k : Int) = x ∧ (j : Int) = y))
    (h : ((k : Int) < x ∨ ((k : Int) = x ∧ (j : Int) ≤ y)) ∧ a ∨ (x < (k : Int) ∨ ((k : Int) = x ∧ y < (j : Int))) ∧ b) :
    ((k : Int) < x ∨ ((k : Int) = x ∧ ((j + 1 : Nat) : Int) ≤ y)) ∧ a ∨ (x < (k : Int) ∨ ((k : Int) = x ∧ y < ((j + 1 : Nat) : Int))) ∧ b := by
  rcases h with ⟨h, ha⟩ | ⟨h, hb⟩
  · exact .inl ⟨by omega, ha⟩
  · exact .inr ⟨by omega, hb⟩
theorem step_on {x y may bit : Int} (h0 : Held x y may bit) {k j : Nat} {a b : Prop} (hj : 8 ≤ j)
    (h : ((k : Int) < x ∨ ((k : Int) = x ∧ (j : Int) ≤ y)) ∧ a ∨ (x < (k : Int) ∨ ((k : Int) = x ∧ y < (j : Int))) ∧ b) :
    ((k + 1 : Nat) : Int) ≤ x ∧ a ∨ x < ((k + 1 : Nat) : Int) ∧ b := by
  have hy : y ≤ 2 := by rcases h0 with h | h | h <;> omega
  rcases h with ⟨h, ha⟩ | ⟨h, hb⟩
  · exact .inl ⟨by omega, ha⟩
  · exact .inr ⟨by omega, hb⟩
def TakeO (wk : Nat) (bit : Int) (p : Nat → Value) (lv id ds : Int) (nm B : Value) (site op m : Int) (G A : Value) (must may pa : Int) (su : Value) (x y : Int) (w : World) (i : Value) (wr : World) : Prop :=
  ∃ (k : Nat) (ps : Value), k ≤ 8 ∧ i = .int .i64 k ∧ BoxAt wr wk (wkL bit ps p lv id ds nm B site op m G A must may pa su) ∧ But (fun k => k = wk) w wr ∧ (((k : Int) ≤ x ∧ ps = .slice none 0 0) ∨ (x < (k : Int) ∧ ∃ g cap, ps = .slice (some ⟨g, 0, none⟩) 1 cap ∧ w.heap.size ≤ g ∧ BoxAt wr g [.int .i64 x, .int .i64 y, .int .i64 site]))
def TakeI (wk : Nat) (bit : Int) (p : Nat → Value) (lv id ds : Int) (nm B : Value) (site op m : Int) (G A : Value) (must may pa : Int) (su : Value) (x y : Int) (w : World) (k : Nat) (i : Value) (wr : World) : Prop :=
  ∃ (j : Nat) (ps : Value), j ≤ 8 ∧ i = .int .i64 j ∧ BoxAt wr wk (wkL bit ps p lv id ds nm B site op m G A must may pa su) ∧ But (fun k => k = wk) w wr ∧ (((k : Int) < x ∨ ((k : Int) = x ∧ (j : Int) ≤ y)) ∧ ps = .slice none 0 0 ∨ (x < (k : Int) ∨ ((k : Int) = x ∧ y < (j : Int))) ∧ ∃ g cap, ps = .slice (some ⟨g, 0, none⟩) 1 cap ∧ w.heap.size ≤ g ∧ BoxAt wr g [.int .i64 x, .int .i64 y, .int .i64 site])
variable (p : Nat → Value) (su : Value)
set_option maxRecDepth 100000 in
set_option maxHeartbeats 4000000 in
theorem pair_nil (wk : Nat) (lk lv id ds : Int) (nm B : Value) (site op m : Int) (G A : Value) (must may pa a b : Int) (w : World)
    (h : BoxAt w wk (wkL lk (.slice none 0 0) p lv id ds nm B site op m G A must may pa su)) :
    Calls Tryz.prog 278 #[.pointer (some ⟨wk, 0, none⟩), .int .i64 a, .int .i64 b] w fun e w' => ∃ g cap, e = .returned (.tuple #[]) ∧ w.heap.size ≤ g ∧ BoxAt w' g [.int .i64 a, .int .i64 b, .int .i64 site] ∧ BoxAt w' wk (wkL lk (.slice (some ⟨g, 0, none⟩) 1 cap) p lv id ds nm B site op m G A must may pa su) ∧ But (fun k => k = wk) w w' := by
  have H := hide h; clear h
  have k19 : w.cell? ⟨wk, 19, none⟩ = some (.slice none 0 0) := H.out.1 19 _ rfl
  have k45 : w.cell? ⟨wk, 45, none⟩ = some (.int .i64 site) := H.out.1 45 _ rfl
  obtain ⟨kf, kz⟩ := H.out.2
  go_enter Tryz.func278, Tryz.ntmps278
  go_region_with (go_at_call 308; refine (insert_nil _ _ _ _ _).mono ?_; rintro e w1 ⟨g, cap, rfl, hg, hbx, hb1⟩; have hb := hide (Below.trans (Below.refl w.heap.size w).drew hb1); have hx := hide hbx; have hg' : Hid (w.heap.size ≤ g) := hide (Nat.le_trans (Nat.le_refl _) hg); clear hbx hg hb1; have H1 := hide (H.out.below hb.out); have m19 : w1.cell? ⟨wk, 19, none⟩ = some (.slice none 0 0) := H1.out.1 19 _ rfl; obtain ⟨mf, mz⟩ := H1.out.2)
  all_goals
    go_wp2_with fail
    go_end0
    have hne : wk ≠ g := by have := hg'.out; omega
    exact ⟨g, cap, rfl, hg'.out, hx.out.other hne _, (H1.out.set 19 (by show 19 < 74; decide) _).as rfl, (But.setCell (S := fun k => k = wk) (p := ⟨wk, 19, none⟩) (Below.but hb.out _) rfl _)⟩
set_option maxRecDepth 100000 in
set_option maxHeartbeats 4000000 in
theorem take_one (x y may bit : Int) (hxy : Held x y may bit) (wk : Nat) (lv id ds : Int) (nm B : Value) (site op m : Int) (G A : Value) (must pa : Int) (w : World)
    (h : BoxAt w wk (wkL 0 (.slice none 0 0) p lv id ds nm B site op m G A must may pa su)) :
    Calls Tryz.prog 275 #[.pointer (some ⟨wk, 0, none⟩), .int .i64 bit] w fun e w' => ∃ g cap, e = .returned (.tuple #[]) ∧ w.heap.size ≤ g ∧ BoxAt w' g [.int .i64 x, .int .i64 y, .int .i64 site] ∧ BoxAt w' wk (wkL bit (.slice (some ⟨g, 0, none⟩) 1 cap) p lv id ds nm B site op m G A must may pa su) ∧ But (fun k => k = wk) w w' := by
  have H := hide h; clear h
  have k17 : w.cell? ⟨wk, 17, none⟩ = some (.int .i64 0) := H.out.1 17 _ rfl
  obtain ⟨kf, kz⟩ := H.out.2
  have hb : bits BinOp.or IntKind.i64 0 bit = bit := by rcases hxy with ⟨_, _, _, rfl⟩ | ⟨_, _, _, rfl⟩ | ⟨_, _, _, rfl⟩ <;> rfl
  have Hxy := hide hxy; clear hxy
  go_enter Tryz.func275, Tryz.ntmps275
  go_wp2_with fail
  obtain ⟨V, hV⟩ : ∃ V, V = w.setCell ⟨wk, 17, none⟩ (.int .i64 bit) := ⟨_, rfl⟩
  have hV1 : BoxAt V wk (wkL bit (.slice none 0 0) p lv id ds nm B site op m G A must may pa su) := by rw [hV]; exact (H.out.set 17 (by show 17 < 74; decide) _).as rfl
  have hV2 : But (fun k => k = wk) w V := by rw [hV]; exact But.setCell (S := fun k => k = wk) (p := ⟨wk, 17, none⟩) (But.refl _ _) rfl _
  have hV3 : V.heap.size = w.heap.size := by rw [hV]; simp
  rw [← hV]
  have HV := hide (And.intro hV1 (And.intro hV2 hV3))
  clear hV1 hV2 hV3 hV hb k17 kf kz
  go_loopw [16] (fun i wr => TakeO wk bit p lv id ds nm B site op m G A must may pa su x y w i wr) (fun i _ => 8 - (intOf i).toNat)
  case atStart => exact ⟨0, _, by omega, rfl, HV.out.1, HV.out.2.1, .inl ⟨by rcases Hxy.out with h | h | h <;> omega, rfl⟩⟩
  case round =>
    obtain ⟨k, ps, hk, rfl, hB, hBut, hst⟩ := hrel
    have HB := hide hB
    have HBut := hide hBut
    have Hst := hide hst
    clear hB hBut hst
    by_cases hlt : k < 8
    · have hd : decide ((k : Int) < 8) = true := by simp; omega
      go_wp2_with fail
      obtain ⟨wo, hwo⟩ : ∃ wo : World, wo = wr := ⟨_, rfl⟩
      rw [← hwo] at HB HBut Hst ⊢
      clear hwo
      go_loopw [19] (fun i wr => TakeI wk bit p lv id ds nm B site op m G A must may pa su x y w k i wr) (fun i _ => 8 - (intOf i).toNat)
      case atStart => exact ⟨0, ps, by omega, rfl, HB.out, HBut.out, by
        rcases Hst.out with ⟨h1, h2⟩ | ⟨h1, h2⟩
        · exact .inl ⟨by rcases Hxy.out with h | h | h <;> omega, h2⟩
        · exact .inr ⟨.inl h1, h2⟩⟩
      case round =>
        obtain ⟨j, ps', hj, rfl, hB, hBut, hst⟩ := hrel
        have HB' := hide hB
        have HBut' := hide hBut
        have Hst' := hide hst
        clear hB hBut hst HB HBut Hst
        have k71 : wr.cell? ⟨wk, 71, none⟩ = some (.int .i64 may) := HB'.out.1 71 _ rfl
        by_cases hlj : j < 8
        · by_cases hit : (k : Int) = x ∧ (j : Int) = y
          · have e1 : bits BinOp.and IntKind.i64 (may / 2 ^ k) 1 = 1 := bit_hit Hxy.out hit.1
            have e2 : bits BinOp.and IntKind.i64 (bit / 2 ^ j) 1 = 1 := bit_hit' Hxy.out hit.2
            have e3 : ¬ (k : Int) = (j : Int) := by rcases Hxy.out with h | h | h <;> omega
            obtain rfl : ps' = .slice none 0 0 := by
              rcases Hst'.out with ⟨-, h2⟩ | ⟨h1, -⟩
              · exact h2
              · omega
            have Hit := hide hit
            clear hit
            go_wp2_with (go_at_call 278; refine (pair_nil p su wk bit lv id ds nm B site op m G A must may pa k j _ HB'.out).mono ?_; rintro e w1 ⟨g, cap, rfl, hg, hx, hB1, hBut1⟩; have Hx := hide hx; have Hg := hide hg; have HB1 := hide hB1; have HBut1 := hide hBut1; clear hx hg hB1 hBut1)
            go_roundw
            case rel => exact ⟨j + 1, _, by omega, by go_num, HB1.out, HBut'.out.trans HBut1.out, .inr ⟨.inr ⟨Hit.out.1, by have := Hit.out.2; omega⟩, g, cap, rfl, Nat.le_trans HBut'.out.size Hg.out, by rw [← Hit.out.1, ← Hit.out.2]; exact Hx.out⟩⟩
            case measure => simp [intOf]; omega
          · have e : bits BinOp.and IntKind.i64 (may / 2 ^ k) 1 = 0 ∨ bits BinOp.and IntKind.i64 (bit / 2 ^ j) 1 = 0 := by
              by_cases hx : (k : Int) = x
              · exact .inr (bit_miss' Hxy.out (fun h => hit ⟨hx, h⟩) hlj)
              · exact .inl (bit_miss Hxy.out hx hlt)
            have Hit := hide hit
            clear hit
            by_cases hkj : (k : Int) = (j : Int)
            · go_wp2_with fail
              go_roundw
              case rel => exact ⟨j + 1, ps', by omega, by go_num, HB'.out, HBut'.out, step_miss Hxy.out Hit.out Hst'.out⟩
              case measure => simp [intOf]; omega
            · rcases e with e | e
              all_goals
                go_wp2_with fail
                all_goals
                  go_roundw
                  case rel => exact ⟨j + 1, ps', by omega, by go_num, HB'.out, HBut'.out, step_miss Hxy.out Hit.out Hst'.out⟩
                  case measure => simp [intOf]; omega
        · go_wp2_with fail
          go_roundw
          case rel => exact ⟨k + 1, ps', by omega, by go_num, HB'.out, HBut'.out, step_on Hxy.out (by omega) Hst'.out⟩
          case measure => simp [intOf]; omega
    · go_wp2_with fail
      go_end0
      rcases Hst.out with ⟨h1, -⟩ | ⟨-, g, cap, rfl, hg, hx⟩
      · exfalso
        rcases Hxy.out with h | h | h <;> omega
      · exact ⟨g, cap, rfl, hg, hx, HB.out, HBut.out⟩
end Go.Proofs.YthhfakkfdohcpaaGreat
/- SLock and SUnlock, at the examples' locks. No condition. -/
namespace Go.Proofs.YthhfakkfdohcpaaGreat
open Go.RowKit
variable (p : Nat → Value) (su : Value)
/-- Two cells of the step's box are written. -/
theorem BoxAt.two {W : World} {g : Nat} {vs : List Value} (h : BoxAt W g vs) (i j : Nat) (hi : i < vs.length) (hj : j < vs.length) (u v : Value) : BoxAt ((W.setCell ⟨g, i, none⟩ u).setCell ⟨g, j, none⟩ v) g ((vs.set i u).set j v) :=
  (h.set i hi u).set j (by simpa using hj) v
theorem But.own {W V : World} {g : Nat} (h : But (fun k => k = g) V W) (i : Nat) (v : Value) : But (fun k => k = g) V (W.setCell ⟨g, i, none⟩ v) := But.setCell (S := fun k => k = g) (p := ⟨g, i, none⟩) h rfl v
def Frst (m bit : Int) : Prop := m = 0 ∧ bit = 1 ∨ m = 1 ∧ bit = 2
set_option maxRecDepth 100000 in
set_option maxHeartbeats 4000000 in
theorem lock_first (m bit : Int) (hm : Frst m bit) (wk : Nat) (lv id ds : Int) (nm B : Value) (site : Int) (G A : Value) (pa : Int) (w : World)
    (h : BoxAt w wk (wkL 0 (.slice none 0 0) p lv id ds nm B site 16 m G A 0 0 pa su)) :
    Calls Tryz.prog 240 #[.pointer (some ⟨wk, 0, none⟩)] w fun e w' => e = .returned (.tuple #[]) ∧ BoxAt w' wk (wkL bit (.slice none 0 0) p lv id ds nm B site 16 m G A bit bit pa su) ∧ But (fun k => k = wk) w w' := by
  have H := hide h; clear h
  have k46 : w.cell? ⟨wk, 46, none⟩ = some (.int .i64 16) := H.out.1 46 _ rfl
  have k48 : w.cell? ⟨wk, 48, none⟩ = some (.int .i64 m) := H.out.1 48 _ rfl
  have k70 : w.cell? ⟨wk, 70, none⟩ = some (.int .i64 0) := H.out.1 70 _ rfl
  have k71 : w.cell? ⟨wk, 71, none⟩ = some (.int .i64 0) := H.out.1 71 _ rfl
  obtain ⟨kf, kz⟩ := H.out.2
  rcases hm with ⟨rfl, rfl⟩ | ⟨rfl, rfl⟩
  all_goals
    go_enter Tryz.func240, Tryz.ntmps240
    go_wp2_with (first
      | (go_at_call 241; refine (find_true _ _ _).mono ?_; rintro e w1 ⟨rfl, rfl⟩)
      | (go_at_call 243; refine (possible_true _ _).mono ?_; rintro e w1 ⟨rfl, rfl⟩)
      | (go_at_call 275; refine (take_none p su wk (.slice none 0 0) lv id ds nm B site 16 _ G A 0 pa _ _ H.out (by rfl)).mono ?_; rintro e w1 ⟨rfl, rfl⟩))
    go_end0
    exact ⟨rfl, (((H.out.set 17 (by show 17 < 74; decide) _).set 70 (by show 70 < 74; decide) _).set 71 (by show 71 < 74; decide) _).as rfl, ((But.own (But.refl _ _) _ _).own _ _).own _ _⟩
set_option maxRecDepth 100000 in
set_option maxHeartbeats 4000000 in
theorem lock_second (x y may bit : Int) (hxy : Held x y may bit) (wk : Nat) (lv id ds : Int) (nm B : Value) (site : Int) (G A : Value) (pa : Int) (w : World)
    (h : BoxAt w wk (wkL 0 (.slice none 0 0) p lv id ds nm B site 16 y G A may may pa su)) :
    Calls Tryz.prog 240 #[.pointer (some ⟨wk, 0, none⟩)] w fun e w' => ∃ g cap, e = .returned (.tuple #[]) ∧ w.heap.size ≤ g ∧ BoxAt w' g [.int .i64 x, .int .i64 y, .int .i64 site] ∧ BoxAt w' wk (wkL bit (.slice (some ⟨g, 0, none⟩) 1 cap) p lv id ds nm B site 16 y G A (may + bit) (may + bit) pa su) ∧ But (fun k => k = wk) w w' := by
  have H := hide h; clear h
  have k46 : w.cell? ⟨wk, 46, none⟩ = some (.int .i64 16) := H.out.1 46 _ rfl
  have k48 : w.cell? ⟨wk, 48, none⟩ = some (.int .i64 y) := H.out.1 48 _ rfl
  have k70 : w.cell? ⟨wk, 70, none⟩ = some (.int .i64 may) := H.out.1 70 _ rfl
  have k71 : w.cell? ⟨wk, 71, none⟩ = some (.int .i64 may) := H.out.1 71 _ rfl
  obtain ⟨kf, kz⟩ := H.out.2
  have Hxy := hide hxy
  rcases hxy with ⟨rfl, rfl, rfl, rfl⟩ | ⟨rfl, rfl, rfl, rfl⟩ | ⟨rfl, rfl, rfl, rfl⟩
  all_goals
    go_enter Tryz.func240, Tryz.ntmps240
    go_wp2_with (first
      | (go_at_call 241; refine (find_true _ _ _).mono ?_; rintro e w1 ⟨rfl, rfl⟩)
      | (go_at_call 243; refine (possible_true _ _).mono ?_; rintro e w1 ⟨rfl, rfl⟩)
      | (go_at_call 275; refine (take_one p su _ _ _ _ Hxy.out wk lv id ds nm B site 16 _ G A _ pa _ H.out).mono ?_; rintro e w1 ⟨g, cap, rfl, hg, hx, hB1, hBut1⟩; have Hx := hide hx; have Hg := hide hg; have HB1 := hide hB1; have HBut1 := hide hBut1; clear hx hg hB1 hBut1; have m70 := HB1.out.1 70 _ rfl; have m71 := HB1.out.1 71 _ rfl; obtain ⟨mf, mz⟩ := HB1.out.2))
    go_end0
    have hne : wk ≠ g := by have := Hg.out; omega
    exact ⟨g, cap, rfl, Hg.out, (Hx.out.other hne _).other hne _, (HB1.out.two 70 71 (by show 70 < 74; decide) (by show 71 < 74; decide) _ _).as rfl, (HBut1.out.own _ _).own _ _⟩
def Una (v m r : Int) : Prop := v = 3 ∧ m = 1 ∧ r = 1 ∨ v = 1 ∧ m = 0 ∧ r = 0 ∨ v = 3 ∧ m = 0 ∧ r = 2 ∨ v = 2 ∧ m = 1 ∧ r = 0 ∨ v = 6 ∧ m = 2 ∧ r = 2
set_option maxRecDepth 100000 in
set_option maxHeartbeats 4000000 in
theorem unlock_one (v m r : Int) (hm : Una v m r) (wk : Nat) (lv id ds : Int) (nm B : Value) (site : Int) (G A : Value) (pa : Int) (w : World)
    (h : BoxAt w wk (wkL 0 (.slice none 0 0) p lv id ds nm B site 17 m G A v v pa su)) :
    Calls Tryz.prog 240 #[.pointer (some ⟨wk, 0, none⟩)] w fun e w' => e = .returned (.tuple #[]) ∧ BoxAt w' wk (wkL 0 (.slice none 0 0) p lv id ds nm B site 17 m G A r r pa su) ∧ But (fun k => k = wk) w w' := by
  have H := hide h; clear h
  have k46 : w.cell? ⟨wk, 46, none⟩ = some (.int .i64 17) := H.out.1 46 _ rfl
  have k48 : w.cell? ⟨wk, 48, none⟩ = some (.int .i64 m) := H.out.1 48 _ rfl
  have k70 : w.cell? ⟨wk, 70, none⟩ = some (.int .i64 v) := H.out.1 70 _ rfl
  have k71 : w.cell? ⟨wk, 71, none⟩ = some (.int .i64 v) := H.out.1 71 _ rfl
  obtain ⟨kf, kz⟩ := H.out.2
  rcases hm with ⟨rfl, rfl, rfl⟩ | ⟨rfl, rfl, rfl⟩ | ⟨rfl, rfl, rfl⟩ | ⟨rfl, rfl, rfl⟩ | ⟨rfl, rfl, rfl⟩
  all_goals
    go_enter Tryz.func240, Tryz.ntmps240
    go_wp2_with (first
      | (go_at_call 241; refine (find_true _ _ _).mono ?_; rintro e w1 ⟨rfl, rfl⟩)
      | (go_at_call 243; refine (possible_true _ _).mono ?_; rintro e w1 ⟨rfl, rfl⟩))
    refine bodyPost_ret (results_none rfl _ _ _) rfl ?_
    exact ⟨rfl, (H.out.two 70 71 (by show 70 < 74; decide) (by show 71 < 74; decide) _ _).as rfl, (But.own (But.refl _ _) _ _).own _ _⟩
end Go.Proofs.YthhfakkfdohcpaaGreat
