/- Maps from pairs of numbers to truth that a call makes. No condition. -/
import Derived.Test.YthpbjceajnaokaaOrd
import Derived.DeepKeys4
namespace Go.Proofs.Ythpbjceajnaokaa
open Go.RowKit
open Go.Maps (Keyed)

theorem Try.laidOut : laidOutB Try.prog = true := by kernel_rfl
theorem Try.row91 : (91 : TypeId) < Try.prog.types.size := of_decide_eq_true (by kernel_rfl)
theorem Try.wide91 : (match Try.prog.underlying 91 with | some (.array _ _) | some (.struct _) => true | _ => false) = true := by kernel_rfl
set_option maxRecDepth 100000 in
theorem law91 : Keyed Try.prog 91 := Keyed.of_law (deep_law_laid Try.laidOut (m := 2) (by omega) Try.row91 (by kernel_rfl) Try.wide91)
theorem keyType91 : Try.prog.keyType 91 = true := by kernel_rfl
theorem cells91 : Try.prog.cellsOf 91 = 2 := by kernel_rfl
theorem cells3 : Try.prog.cellsOf 3 = 1 := by kernel_rfl
theorem tsize : Try.prog.types.size = 125 := by kernel_rfl
set_option maxRecDepth 100000 in
theorem keyLits91 (d : Nat) {i s : Int} (hi : (Lit.int .i64 i).wf = true) (hs : (Lit.int .i64 s).wf = true) : Try.prog.keyLits (d + 1 + 1) 91 [.int .i64 i, .int .i64 s] = some [.int .i64 i, .int .i64 s] := by
  have h3 : ∀ x, (Lit.int .i64 x).wf = true → Try.prog.keyLits (d + 1) 3 [.int .i64 x] = some [.int .i64 x] := by
    intro x hx
    unfold Program.keyLits
    simp [Try.underlying3, hx]
  unfold Program.keyLits
  simp only [Try.underlying91]
  simp [cells91, cells3, List.range_succ, h3, hi, hs]
set_option maxRecDepth 100000 in
theorem keyOf_two {i s : Int} (hi : (Lit.int .i64 i).wf = true) (hs : (Lit.int .i64 s).wf = true) : ∃ kl, keyOf Try.prog 91 (.agg #[.int .i64 i, .int .i64 s]) = some kl := by
  have hf : (Value.agg #[.int .i64 i, .int .i64 s]).formed Try.prog 91 = true := by simp [Value.formed, Try.underlying91, cells91]
  unfold keyOf
  rw [Try.underlying91]
  simp only [keyType91, hf, Bool.and_self, if_true, tsize]
  have h := keyLits91 124 hi hs
  exact ⟨_, by show Option.map _ (Try.prog.keyLits (124 + 1 + 1) 91 [.int .i64 i, .int .i64 s]) = _; rw [h]; rfl⟩

/-- Block b is a map of at most n entries from pairs of numbers to truth that says f. -/
def BMap2 (w : World) (b n : Nat) (f : Int → Int → Bool) : Prop :=
  ∃ D : DataW Unit, w.ownsMap Try.prog 91 (plainElem Try.prog 4) b n D ∧ Maps.IsMap D ∧ ∀ i s kl, keyOf Try.prog 91 (.agg #[.int .i64 i, .int .i64 s]) = some kl → D.atKey kl (.lit (.bool false)) = .lit (.bool (f i s))
theorem BMap2.made (w : World) : BMap2 (w.alloc (.map #[] 0)) w.heap.size 0 (fun _ _ => false) :=
  ⟨.map [], World.ownsMap_made w Try.prog 91 _, Maps.isMap_empty, fun _ _ _ _ => rfl⟩
theorem BMap2.kept {w w' : World} {b n : Nat} {f : Int → Int → Bool} {row : Option Nat} (h : BMap2 w b n f) (hg : w.grownBy w' row) (hne : some b ≠ row) : BMap2 w' b n f := by
  obtain ⟨D, h1, h2, h3⟩ := h
  exact ⟨D, h1.kept hg hne, h2, h3⟩
theorem BMap2.lt {w : World} {b n : Nat} {f : Int → Int → Bool} (h : BMap2 w b n f) : b < w.heap.size := by
  obtain ⟨D, h1, _⟩ := h
  exact h1.lt
theorem BMap2.below {w w' : World} {b n : Nat} {f : Int → Int → Bool} (h : BMap2 w b n f) (hb : Below w.heap.size w w') : BMap2 w' b n f := h.kept (below_grown hb (Nat.le_refl _)) (by simp)
theorem BMap2.alloc {w : World} {b n : Nat} {f : Int → Int → Bool} (h : BMap2 w b n f) (o : Obj) : BMap2 (w.alloc o) b n f := h.kept (World.grownBy_alloc w o none) (by simp)
theorem BMap2.look {w : World} {b n : Nat} {f : Int → Int → Bool} (h : BMap2 w b n f) {i s : Int} (hi : (Lit.int .i64 i).wf = true) (hs : (Lit.int .i64 s).wf = true) : (Instr.lookup 90 (.map (some b)) (.agg #[.int .i64 i, .int .i64 s]) false).run Try.prog w = .ok (.bool (f i s)) w := by
  obtain ⟨D, h1, h2, h3⟩ := h
  obtain ⟨kl, hkl⟩ := keyOf_two hi hs
  obtain ⟨v, ps, hrun, hv⟩ := h1.lookup law91 Try.underlying90 (Try.zeroValue4 w) (plainElem_bool Try.underlying4 false) hkl
  obtain ⟨a, rfl, ha⟩ := plainElem_bool_inv hv
  simp only [Prod.mk.injEq] at ha
  rw [h3 i s kl hkl] at ha
  simp only [DataW.lit.injEq, Lit.bool.injEq] at ha
  rw [hrun, ha.1]
set_option maxRecDepth 100000 in
theorem BMap2.upd {w : World} {b n : Nat} {f : Int → Int → Bool} (h : BMap2 w b n f) {i s : Int} (hi : (Lit.int .i64 i).wf = true) (hs : (Lit.int .i64 s).wf = true) (hn : n < 1000000) (v : Bool) :
    ∃ w', (Instr.mapUpdate 90 (.map (some b)) (.agg #[.int .i64 i, .int .i64 s]) (.bool v)).run Try.prog w = .ok () w' ∧ BMap2 w' b (n + 1) (fun x y => if x = i ∧ y = s then v else f x y) ∧ w.grownBy w' (some b) := by
  obtain ⟨D, h1, h2, h3⟩ := h
  obtain ⟨kl, hkl⟩ := keyOf_two hi hs
  obtain ⟨w', hrun, k1, k2⟩ := h1.update law91 Try.underlying90 (by simp only [maxLen]; omega) hkl (plainElem_bool Try.underlying4 v)
  refine ⟨w', hrun, ⟨_, k1, h2.put _ _, fun x y ky hky => ?_⟩, k2⟩
  by_cases hxy : x = i ∧ y = s
  · obtain ⟨rfl, rfl⟩ := hxy
    rw [hkl] at hky
    injection hky with hky
    subst hky
    show _ = DataW.lit (Lit.bool (if x = x ∧ y = y then v else f x y))
    rw [if_pos ⟨rfl, rfl⟩]
    exact Maps.atKey_put_same h2 (law91.key hkl) _ _
  · show _ = DataW.lit (Lit.bool (if x = i ∧ y = s then v else f x y))
    rw [if_neg hxy, Maps.atKey_put_other (fun e => hxy ?_)]
    · exact h3 x y ky hky
    · subst e
      have := law91.inj hky hkl
      simpa using this
theorem wpList_mapUpd2 {w : World} {ops : Array Oper} {rest : List Oper} {o : Oper} {a : Act} {Q : Exit → Act → World → Prop}
    (hg : o.guard = none) (m x v : Operand) (hop : o.op = Op.mapUpdate 90 m x v) (b n : Nat) (f : Int → Int → Bool) (i s : Int) (u : Bool)
    (hm : a.eval m = .map (some b)) (hx : a.eval x = .agg #[.int .i64 i, .int .i64 s]) (hv : a.eval v = .bool u) (hown : BMap2 w b n f) (hn : n < 1000000) (hi : (Lit.int .i64 i).wf = true) (hs : (Lit.int .i64 s).wf = true)
    (hK : ∀ w', BMap2 w' b (n + 1) (fun z y => if z = i ∧ y = s then u else f z y) → w.grownBy w' (some b) → wpList Try.prog ops Q rest (a.put o.dst undef) w') :
    wpList Try.prog ops Q (o :: rest) a w := by
  refine wpList_plain hg fun K' hK' => ?_
  obtain ⟨w', hrun, r1, r2⟩ := hown.upd hi hs hn u
  unfold Oper.wp
  simp [execOp, hop, hm, hx, hv, hrun, Result.andThen]
  exact hK' _ _ (hK w' r1 r2)
end Go.Proofs.Ythpbjceajnaokaa
