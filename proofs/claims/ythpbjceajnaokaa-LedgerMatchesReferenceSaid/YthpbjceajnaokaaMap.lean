/- Maps from numbers to truth that a call makes; regions whose order is open and whose callees make memory. No condition. -/
import Derived.Test.YthpbjceajnaokaaApp
import Derived.Maps.OwnOps
namespace Go.Proofs.Ythpbjceajnaokaa
open Go.RowKit
open Go.Maps (Keyed)

/-- Block b is a map of at most n entries from numbers to truth that says f. -/
def BMap (w : World) (b n : Nat) (f : Int → Bool) : Prop :=
  ∃ D : DataW Unit, w.ownsMap Try.prog 3 (plainElem Try.prog 4) b n D ∧ Maps.IsMap D ∧ ∀ x, (Lit.int .i64 x).wf = true → D.atKey (.int .i64 x) (.lit (.bool false)) = .lit (.bool (f x))
theorem BMap.made (w : World) : BMap (w.alloc (.map #[] 0)) w.heap.size 0 (fun _ => false) :=
  ⟨.map [], World.ownsMap_made w Try.prog 3 _, Maps.isMap_empty, fun _ _ => rfl⟩
theorem BMap.kept {w w' : World} {b n : Nat} {f : Int → Bool} {row : Option Nat} (h : BMap w b n f) (hg : w.grownBy w' row) (hne : some b ≠ row) : BMap w' b n f := by
  obtain ⟨D, h1, h2, h3⟩ := h
  exact ⟨D, h1.kept hg hne, h2, h3⟩
theorem BMap.lt {w : World} {b n : Nat} {f : Int → Bool} (h : BMap w b n f) : b < w.heap.size := by
  obtain ⟨D, h1, _⟩ := h
  exact h1.lt
theorem below_grown {B : Nat} {w w' : World} (h : Below B w w') (hB : w.heap.size ≤ B) : w.grownBy w' none := ⟨h.os, h.tape, h.output, h.size, fun k hk _ => h.block k (Nat.lt_of_lt_of_le hk hB)⟩
theorem BMap.below {w w' : World} {b n : Nat} {f : Int → Bool} (h : BMap w b n f) (hb : Below w.heap.size w w') : BMap w' b n f := h.kept (below_grown hb (Nat.le_refl _)) (by simp)
theorem BMap.alloc {w : World} {b n : Nat} {f : Int → Bool} (h : BMap w b n f) (o : Obj) : BMap (w.alloc o) b n f := h.kept (World.grownBy_alloc w o none) (by simp)
theorem BMap.setCell {w : World} {b n : Nat} {f : Int → Bool} (h : BMap w b n f) {p : Addr} (hp : p.block ≠ b) (u : Value) : BMap (w.setCell p u) b n f :=
  h.kept (row := some p.block) ⟨rfl, rfl, rfl, by simp, fun k _ hk => Below.heap_setCell _ _ _ _ (fun e => hk (by rw [e]))⟩ (fun e => hp (by injection e with e; exact e.symm))
theorem i64_wf {x : Int} (h1 : -9223372036854775808 ≤ x) (h2 : x < 9223372036854775808) : (Lit.int .i64 x).wf = true := by
  have e1 : IntKind.i64.min = -9223372036854775808 := by decide
  have e2 : IntKind.i64.max = 9223372036854775807 := by decide
  simp only [Lit.wf, e1, e2, Bool.and_eq_true, decide_eq_true_eq]
  omega
theorem plainElem_bool_inv {H : Type} {v : Value} {z : DataW H × List MemPlace} (h : plainElem Try.prog 4 v = some z) : ∃ a, v = .bool a ∧ z = (.lit (.bool a), []) := by
  unfold plainElem at h
  have e := Try.underlying4
  cases v <;> simp [e] at h
  exact ⟨_, rfl, h.symm⟩
theorem BMap.look {w : World} {b n : Nat} {f : Int → Bool} (h : BMap w b n f) {x : Int} (hx : (Lit.int .i64 x).wf = true) : (Instr.lookup 75 (.map (some b)) (.int .i64 x) false).run Try.prog w = .ok (.bool (f x)) w := by
  obtain ⟨D, h1, h2, h3⟩ := h
  obtain ⟨v, ps, hrun, hv⟩ := h1.lookup (Maps.int_keyed Try.underlying3) Try.underlying75 (Try.zeroValue4 w) (plainElem_bool Try.underlying4 false) (Maps.keyOf_int_mk Try.underlying3 hx)
  obtain ⟨a, rfl, ha⟩ := plainElem_bool_inv hv
  simp only [Prod.mk.injEq] at ha
  rw [h3 x hx] at ha
  simp only [DataW.lit.injEq, Lit.bool.injEq] at ha
  rw [hrun, ha.1]
theorem BMap.upd {w : World} {b n : Nat} {f : Int → Bool} (h : BMap w b n f) {x : Int} (hx : (Lit.int .i64 x).wf = true) (hn : n < 1000000) (v : Bool) :
    ∃ w', (Instr.mapUpdate 75 (.map (some b)) (.int .i64 x) (.bool v)).run Try.prog w = .ok () w' ∧ BMap w' b (n + 1) (fun y => if y = x then v else f y) ∧ w.grownBy w' (some b) := by
  obtain ⟨D, h1, h2, h3⟩ := h
  obtain ⟨w', hrun, k1, k2⟩ := h1.update (Maps.int_keyed Try.underlying3) Try.underlying75 (by simp only [maxLen]; omega) (Maps.keyOf_int_mk Try.underlying3 hx) (plainElem_bool Try.underlying4 v)
  refine ⟨w', hrun, ⟨_, k1, h2.put _ _, fun y hy => ?_⟩, k2⟩
  by_cases hxy : y = x
  · subst hxy
    show _ = DataW.lit (Lit.bool (if y = y then v else f y))
    rw [if_pos rfl]
    exact Maps.atKey_put_same h2 (by trivial) _ _
  · show _ = DataW.lit (Lit.bool (if y = x then v else f y))
    rw [if_neg hxy, Maps.atKey_put_other (fun e => hxy (by injection e))]
    exact h3 y hy
theorem wpList_mapUpd {w : World} {ops : Array Oper} {rest : List Oper} {o : Oper} {a : Act} {Q : Exit → Act → World → Prop}
    (hg : o.guard = none) (m x v : Operand) (hop : o.op = Op.mapUpdate 75 m x v) (b n : Nat) (f : Int → Bool) (y : Int) (u : Bool)
    (hm : a.eval m = .map (some b)) (hx : a.eval x = .int .i64 y) (hv : a.eval v = .bool u) (hown : BMap w b n f) (hn : n < 1000000) (hy : (Lit.int .i64 y).wf = true)
    (hK : ∀ w', BMap w' b (n + 1) (fun z => if z = y then u else f z) → w.grownBy w' (some b) → wpList Try.prog ops Q rest (a.put o.dst undef) w') :
    wpList Try.prog ops Q (o :: rest) a w := by
  refine wpList_plain hg fun K' hK' => ?_
  obtain ⟨w', hrun, r1, r2⟩ := hown.upd hy hn u
  unfold Oper.wp
  simp [execOp, hop, hm, hx, hv, hrun, Result.andThen]
  exact hK' _ _ (hK w' r1 r2)

theorem some_ne {a b : Nat} (h : a ≠ b) : some a ≠ some b := fun e => h (Option.some.inj e)
/-- A world that has come of w by growth alone. -/
structure Wd (w : World) where
  w' : World
  h : Below w.heap.size w w'
instance (w : World) : Inhabited (Wd w) := ⟨⟨w, Below.refl _ _⟩⟩
theorem wp_region_grew {P : Program} {id : Nat} {Q : Exit → Act → World → Prop} {a : Act} {w : World} {l : List Oper} (hm : P.follows .mixedOrders = true) (hB : Region.lexB .any l.toArray = true)
    (h : wpQuiet P l.toArray (fun w' => ∃ p : Wd w, w' = p.w') (fun a' => ∀ w', (∃ p : Wd w, w' = p.w') → Q .normal a' w') l a) : (Code.region id l.toArray true).wp P Q a w :=
  wp_region_quiet (C := fun w' => ∃ p : Wd w, w' = p.w') hm hB ⟨⟨w.drew, (Below.refl _ _).drew⟩, rfl⟩ (by simpa using h)
theorem grew_of {P : Program} {f : FuncId} {args : Array Value} {w : World} {p : Wd w} {v : Value}
    (h : Calls P f args p.w' fun e w' => e = .returned v ∧ Below p.w'.heap.size p.w' w') : Calls P f args p.w' fun e w'' => e = .returned v ∧ ∃ p : Wd w, w'' = p.w' :=
  h.mono fun _ w'' ⟨he, hb⟩ => ⟨he, ⟨w'', p.h.trans (hb.mono p.h.size)⟩, rfl⟩
theorem Wd.cell {w : World} {b o : Nat} {v : Value} (h : w.cell? ⟨b, o, none⟩ = some v) (p : Wd w) : p.w'.cell? ⟨b, o, none⟩ = some v :=
  (p.h.cell (p := ⟨b, o, none⟩) (World.block_lt_of_cell? w _ h)).trans h
end Go.Proofs.Ythpbjceajnaokaa
