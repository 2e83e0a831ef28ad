/- The sets of values and other small functions, at the arguments of the examples. No condition. -/
import Derived.Test.YthhfakkfdohcpaaGreatProg
import Derived.WalkKit
import Derived.Outline
import Derived.Handy
import Derived.WalkSpells
import Derived.WalkLawsBesides
import Derived.Lib.Hide
import Derived.Deep.QuietTactic
import Derived.BigQuiet
import Derived.Deep.Draws
import Derived.Deep.RegionHeld3
import Derived.Deep.DeepCutAuto
import Derived.Deep.LoopGhost
import Derived.Laws.AppendOwn
namespace Go.Proofs.YthhfakkfdohcpaaGreat
open Go.RowKit

/-- A block of cells as it lies. -/
def BoxAt (W : World) (g : Nat) (vs : List Value) : Prop := (∀ (i : Nat) v, vs[i]? = some v → W.cell? ⟨g, i, none⟩ = some v) ∧ (∀ o, W.frozen? ⟨g, o, none⟩ = false) ∧ g < W.heap.size
theorem BoxAt.new (W : World) (vs : List Value) (t : TypeId) : BoxAt (W.alloc (.cells vs.toArray t)) W.heap.size vs := by
  have n := heap_alloc_new W (.cells vs.toArray t)
  refine ⟨fun i v h => by simp only [World.cell?, n]; simpa using h, fun o => by simp only [World.frozen?, n]; simp, by simp⟩
theorem BoxAt.below {W W' : World} {g : Nat} {vs : List Value} (h : BoxAt W g vs) (hb : Below W.heap.size W W') : BoxAt W' g vs :=
  ⟨fun i v hv => (hb.cell (p := ⟨g, i, none⟩) h.2.2).trans (h.1 i v hv), fun o => (hb.frozen (p := ⟨g, o, none⟩) h.2.2).trans (h.2.1 o), Nat.lt_of_lt_of_le h.2.2 hb.size⟩
theorem BoxAt.alloc {W : World} {g : Nat} {vs : List Value} (h : BoxAt W g vs) (o : Obj) : BoxAt (W.alloc o) g vs := h.below ((Below.refl _ W).alloc (Nat.le_refl _) _)
theorem BoxAt.five {W : World} {g : Nat} {a b c d e : Value} (h : BoxAt W g [a, b, c, d, e]) :
    W.cell? ⟨g, 0, none⟩ = some a ∧ W.cell? ⟨g, 1, none⟩ = some b ∧ W.cell? ⟨g, 2, none⟩ = some c ∧ W.cell? ⟨g, 3, none⟩ = some d ∧ W.cell? ⟨g, 4, none⟩ = some e ∧ (∀ o, W.frozen? ⟨g, o, none⟩ = false) ∧ g < W.heap.size :=
  ⟨h.1 0 _ rfl, h.1 1 _ rfl, h.1 2 _ rfl, h.1 3 _ rfl, h.1 4 _ rfl, h.2⟩
theorem BoxAt.eight {W : World} {g : Nat} {a b c d e f i j : Value} (h : BoxAt W g [a, b, c, d, e, f, i, j]) :
    W.cell? ⟨g, 0, none⟩ = some a ∧ W.cell? ⟨g, 1, none⟩ = some b ∧ W.cell? ⟨g, 2, none⟩ = some c ∧ W.cell? ⟨g, 3, none⟩ = some d ∧ W.cell? ⟨g, 4, none⟩ = some e ∧ W.cell? ⟨g, 5, none⟩ = some f ∧ W.cell? ⟨g, 6, none⟩ = some i ∧ W.cell? ⟨g, 7, none⟩ = some j ∧ (∀ o, W.frozen? ⟨g, o, none⟩ = false) ∧ g < W.heap.size :=
  ⟨h.1 0 _ rfl, h.1 1 _ rfl, h.1 2 _ rfl, h.1 3 _ rfl, h.1 4 _ rfl, h.1 5 _ rfl, h.1 6 _ rfl, h.1 7 _ rfl, h.2⟩
/-- The result's box behind a call. -/
theorem last5 {W0 w1 : World} {a b c d e : Value} {t : TypeId} (h : Below (W0.alloc (.cells #[a, b, c, d, e] t)).heap.size (W0.alloc (.cells #[a, b, c, d, e] t)) w1) : BoxAt w1 W0.heap.size [a, b, c, d, e] := (BoxAt.new W0 [a, b, c, d, e] t).below h
theorem last8 {W0 w1 : World} {a b c d e f i j : Value} {t : TypeId} (h : Below (W0.alloc (.cells #[a, b, c, d, e, f, i, j] t)).heap.size (W0.alloc (.cells #[a, b, c, d, e, f, i, j] t)) w1) : BoxAt w1 W0.heap.size [a, b, c, d, e, f, i, j] := (BoxAt.new W0 [a, b, c, d, e, f, i, j] t).below h

def cmpI (a b : Int) : Int := if a < b then -1 else if b < a then 1 else 0

set_option maxHeartbeats 400000 in
theorem isnan_any (a : Int) (w : World) : Calls Tryz.prog 55 #[.int .i64 a] w fun e w' => e = .returned (.bool false) ∧ w = w' := by
  go_enter Tryz.func55, Tryz.ntmps55
  go_wp2
  go_ret
  exact ⟨rfl, rfl⟩
set_option maxHeartbeats 400000 in
theorem mod_one (a : Int) (w : World) (h : a = -2147483648 ∨ a = 0) : Calls Tryz.prog 150 #[.int .i64 a, .int .i64 1] w fun e w' => e = .returned (.int .i64 0) ∧ w = w' := by
  rcases h with rfl | rfl
  all_goals
    go_enter Tryz.func150, Tryz.ntmps150
    go_wp2
    go_ret
    exact ⟨rfl, rfl⟩
set_option maxHeartbeats 400000 in
theorem abs_zero (w : World) : Calls Tryz.prog 134 #[.int .i64 0] w fun e w' => e = .returned (.int .i64 0) ∧ w = w' := by
  go_enter Tryz.func134, Tryz.ntmps134
  go_wp2
  go_ret
  exact ⟨rfl, rfl⟩
/-- The set of 0 alone. -/
abbrev zeroA : Value := .agg #[.int .i64 0, .int .i64 0, .int .i64 1, .int .i64 0, .int .i64 0]
set_option maxHeartbeats 400000 in
theorem by_zero (m : Int) (hm : m = 0) (w : World) : Calls Tryz.prog 125 #[.int .i64 0, .int .i64 0, .int .i64 m, .int .i64 0] w fun e w' => e = .returned zeroA ∧ Below w.heap.size w w' := by
  subst hm
  go_enter Tryz.func125, Tryz.ntmps125
  go_wp2
  exact bodyPost_ret (by simp [results, Tryz.results125, go_sem]) rfl ⟨rfl, (by repeat (first | with_reducible exact Below.refl _ _ | with_reducible refine Below.setCell ?_ (by simp <;> omega) _ | with_reducible refine below_drewN ?_ _ | with_reducible refine Below.drew ?_ | with_reducible refine Below.alloc ?_ (by simp <;> omega) _ | with_reducible refine Below.setCell ?_ (by simp <;> omega) _ | with_reducible refine Below.alloc ?_ (by simp <;> omega) _ | omega | (simp; done)))⟩
set_option maxHeartbeats 400000 in
theorem by_all (w : World) : Calls Tryz.prog 125 #[.int .i64 (-2147483648), .int .i64 2147483647, .int .i64 1, .int .i64 255] w fun e w' => e = .returned (.agg #[.int .i64 (-2147483648), .int .i64 2147483647, .int .i64 1, .int .i64 0, .int .i64 255]) ∧ Below w.heap.size w w' := by
  go_enter Tryz.func125, Tryz.ntmps125
  go_wp2_with (go_at_call 150; refine (mod_one _ _ (by decide)).mono ?_; rintro e w' ⟨rfl, rfl⟩)
  exact bodyPost_ret (by simp [results, Tryz.results125, go_sem]) rfl ⟨rfl, (by repeat (first | with_reducible exact Below.refl _ _ | with_reducible refine Below.setCell ?_ (by simp <;> omega) _ | with_reducible refine below_drewN ?_ _ | with_reducible refine Below.drew ?_ | with_reducible refine Below.alloc ?_ (by simp <;> omega) _ | with_reducible refine Below.setCell ?_ (by simp <;> omega) _ | with_reducible refine Below.alloc ?_ (by simp <;> omega) _ | omega | (simp; done)))⟩
set_option maxHeartbeats 400000 in
theorem of_zero (w : World) : Calls Tryz.prog 142 #[.agg #[.int .i64 0, .int .i64 0]] w fun e w' => e = .returned zeroA ∧ Below w.heap.size w w' := by
  go_enter Tryz.func142, Tryz.ntmps142
  go_wp2_with (go_at_call 125; refine (by_zero _ rfl _).mono ?_; rintro e w1 ⟨rfl, hb1⟩; obtain ⟨k0, k1, k2, k3, k4, kf, kz⟩ := (last5 hb1).five; simp only [World.size_alloc] at k0 k1 k2 k3 k4 kf kz; have hB : Below w.heap.size w w1 := Below.trans (by exact (by repeat (first | with_reducible exact Below.refl _ _ | with_reducible refine Below.setCell ?_ (by simp <;> omega) _ | with_reducible refine below_drewN ?_ _ | with_reducible refine Below.drew ?_ | with_reducible refine Below.alloc ?_ (by simp <;> omega) _ | with_reducible refine Below.setCell ?_ (by simp <;> omega) _ | with_reducible refine Below.alloc ?_ (by simp <;> omega) _ | omega | (simp; done)))) (hb1.mono (by simp; omega)))
  exact bodyPost_ret (by simp [results, Tryz.results142, go_sem, k0, k1, k2, k3, k4]) rfl ⟨rfl, (by repeat (first | with_reducible exact hB | with_reducible exact Below.refl _ _ | with_reducible refine Below.setCell ?_ (by simp <;> omega) _ | with_reducible refine below_drewN ?_ _ | with_reducible refine Below.drew ?_ | with_reducible refine Below.alloc ?_ (by simp <;> omega) _ | with_reducible refine Below.setCell ?_ (by simp <;> omega) _ | with_reducible refine Below.alloc ?_ (by simp <;> omega) _ | with_reducible refine Below.setCell ?_ (by omega) _ | with_reducible refine Below.alloc ?_ (by omega) _ | omega | (simp; done)))⟩
set_option maxHeartbeats 400000 in
theorem all_255 (w : World) : Calls Tryz.prog 119 #[.int .i64 255] w fun e w' => e = .returned (.agg #[.int .i64 (-2147483648), .int .i64 2147483647, .int .i64 1, .int .i64 0, .int .i64 255]) ∧ Below w.heap.size w w' := by
  go_enter Tryz.func119, Tryz.ntmps119
  go_wp2_with (go_at_call 125; refine (by_all _).mono ?_; rintro e w1 ⟨rfl, hb1⟩; obtain ⟨k0, k1, k2, k3, k4, kf, kz⟩ := (last5 hb1).five; have hB : Below w.heap.size w w1 := Below.trans (by exact (by repeat (first | with_reducible exact Below.refl _ _ | with_reducible refine Below.setCell ?_ (by simp <;> omega) _ | with_reducible refine below_drewN ?_ _ | with_reducible refine Below.drew ?_ | with_reducible refine Below.alloc ?_ (by simp <;> omega) _ | with_reducible refine Below.setCell ?_ (by simp <;> omega) _ | with_reducible refine Below.alloc ?_ (by simp <;> omega) _ | omega | (simp; done)))) (hb1.mono (by simp)))
  exact bodyPost_ret (by simp [results, Tryz.results119, go_sem, k0, k1, k2, k3, k4]) rfl ⟨rfl, (by repeat (first | with_reducible exact hB | with_reducible exact Below.refl _ _ | with_reducible refine Below.setCell ?_ (by simp <;> omega) _ | with_reducible refine below_drewN ?_ _ | with_reducible refine Below.drew ?_ | with_reducible refine Below.alloc ?_ (by simp <;> omega) _ | with_reducible refine Below.setCell ?_ (by simp <;> omega) _ | with_reducible refine Below.alloc ?_ (by simp <;> omega) _ | with_reducible refine Below.setCell ?_ (by omega) _ | with_reducible refine Below.alloc ?_ (by omega) _ | omega | (simp; done)))⟩
set_option maxRecDepth 100000 in
set_option maxHeartbeats 400000 in
theorem gap_new (w : World) : Calls Tryz.prog 114 #[.int .i64 0, .int .i64 0] w fun e w' => ∃ A, e = .returned (.slice A 0 0) ∧ Below w.heap.size w w' := by
  have hmk : ∀ w, (Instr.makeSlice 161 (.int .i64 0) (.int .i64 0)).run Tryz.prog w = .ok (.slice (some ⟨w.heap.size, 0, none⟩) 0 0) (w.alloc (.cells #[] 42)) := fun _ => by kernel_rfl
  go_enter Tryz.func114, Tryz.ntmps114
  go_wp2
  go_rounds 1
  go_ret
  exact ⟨_, rfl, (by repeat (first | with_reducible exact Below.refl _ _ | with_reducible refine Below.setCell ?_ (by simp <;> omega) _ | with_reducible refine below_drewN ?_ _ | with_reducible refine Below.drew ?_ | with_reducible refine Below.alloc ?_ (by simp <;> omega) _ | with_reducible refine Below.setCell ?_ (by simp <;> omega) _ | with_reducible refine Below.alloc ?_ (by simp <;> omega) _ | omega | (simp; done)))⟩
set_option maxRecDepth 100000 in
set_option maxHeartbeats 400000 in
theorem clone_abs_nil (w : World) : Calls Tryz.prog 145 #[.slice none 0 0] w fun e w' => e = .returned (.slice none 0 0) ∧ Below w.heap.size w w' := by
  have He := fun W => Lib.run_eql_slice_nil (P := Tryz.prog) W 154 57 none 0 0 0 0 Tryz.underlying154
  go_enter Tryz.func145, Tryz.ntmps145
  go_wp2
  go_ret
  exact ⟨rfl, (by repeat (first | with_reducible exact Below.refl _ _ | with_reducible refine Below.setCell ?_ (by simp <;> omega) _ | with_reducible refine below_drewN ?_ _ | with_reducible refine Below.drew ?_ | with_reducible refine Below.alloc ?_ (by simp <;> omega) _ | with_reducible refine Below.setCell ?_ (by simp <;> omega) _ | with_reducible refine Below.alloc ?_ (by simp <;> omega) _ | omega | (simp; done)))⟩
set_option maxRecDepth 100000 in
set_option maxHeartbeats 400000 in
theorem clone_ref_nil (w : World) : Calls Tryz.prog 146 #[.slice none 0 0] w fun e w' => e = .returned (.slice none 0 0) ∧ Below w.heap.size w w' := by
  have He := fun W => Lib.run_eql_slice_nil (P := Tryz.prog) W 162 207 none 0 0 0 0 Tryz.underlying162
  go_enter Tryz.func146, Tryz.ntmps146
  go_wp2
  go_ret
  exact ⟨rfl, (by repeat (first | with_reducible exact Below.refl _ _ | with_reducible refine Below.setCell ?_ (by simp <;> omega) _ | with_reducible refine below_drewN ?_ _ | with_reducible refine Below.drew ?_ | with_reducible refine Below.alloc ?_ (by simp <;> omega) _ | with_reducible refine Below.setCell ?_ (by simp <;> omega) _ | with_reducible refine Below.alloc ?_ (by simp <;> omega) _ | omega | (simp; done)))⟩
set_option maxHeartbeats 400000 in
theorem dead_any (w : World) : Calls Tryz.prog 111 #[] w fun e w' => e = .returned (.agg #[.bool true, .slice none 0 0, .slice none 0 0, .slice none 0 0, .slice none 0 0, .int .i64 0, .int .i64 0, .int .i64 0]) ∧ Below w.heap.size w w' := by
  go_enter Tryz.func111, Tryz.ntmps111
  go_wp2
  exact bodyPost_ret (by simp [results, Tryz.results111, go_sem]) rfl ⟨rfl, (by repeat (first | with_reducible exact Below.refl _ _ | with_reducible refine Below.setCell ?_ (by simp <;> omega) _ | with_reducible refine below_drewN ?_ _ | with_reducible refine Below.drew ?_ | with_reducible refine Below.alloc ?_ (by simp <;> omega) _ | with_reducible refine Below.setCell ?_ (by simp <;> omega) _ | with_reducible refine Below.alloc ?_ (by simp <;> omega) _ | omega | (simp; done)))⟩
set_option maxHeartbeats 400000 in
theorem step_one (x : Int) (m : Int) (w : World) : Calls Tryz.prog 133 #[.agg #[.int .i64 x, .int .i64 x, .int .i64 m, .int .i64 0, .int .i64 0]] w fun e w' => e = .returned (.int .i64 0) ∧ Below w.heap.size w w' := by
  go_enter Tryz.func133, Tryz.ntmps133
  go_wp2
  go_ret
  exact ⟨rfl, (by repeat (first | with_reducible exact Below.refl _ _ | with_reducible refine Below.setCell ?_ (by simp <;> omega) _ | with_reducible refine below_drewN ?_ _ | with_reducible refine Below.drew ?_ | with_reducible refine Below.alloc ?_ (by simp <;> omega) _ | with_reducible refine Below.setCell ?_ (by simp <;> omega) _ | with_reducible refine Below.alloc ?_ (by simp <;> omega) _ | omega | (simp; done)))⟩
set_option maxHeartbeats 400000 in
theorem drop_dead (d : Value) (lv : Int) (w : World) (id site : Int) (nm B : Value) : Calls Tryz.prog 117 #[.agg #[.int .i64 id, .int .i64 site, nm, .int .i64 0, .int .i64 0, .slice none 0 0, .slice none 0 0, .int .i64 0, .int .i64 0, .slice none 0 0, .int .i64 100, B], .int .i64 lv, .agg #[.bool true, .slice none 0 0, .slice none 0 0, .slice none 0 0, .slice none 0 0, .int .i64 0, .int .i64 0, .int .i64 0]] w fun e w' => e = .returned (.agg #[.bool true, .slice none 0 0, .slice none 0 0, .slice none 0 0, .slice none 0 0, .int .i64 0, .int .i64 0, .int .i64 0]) ∧ Below w.heap.size w w' := by
  go_enter Tryz.func117, Tryz.ntmps117
  go_wp2
  refine bodyPost_ret (by simp [results, Tryz.results117, go_sem]) rfl ⟨rfl, ?_⟩
  exact (by repeat (first | with_reducible exact Below.refl _ _ | with_reducible refine Below.setCell ?_ (by simp <;> omega) _ | with_reducible refine below_drewN ?_ _ | with_reducible refine Below.drew ?_ | with_reducible refine Below.alloc ?_ (by simp <;> omega) _ | with_reducible refine Below.setCell ?_ (by simp <;> omega) _ | with_reducible refine Below.alloc ?_ (by simp <;> omega) _ | omega | (simp; done)))
end Go.Proofs.YthhfakkfdohcpaaGreat
/- What a call leaves as it lay, but for some blocks. No condition. -/
namespace Go.Proofs.YthhfakkfdohcpaaGreat
open Go.RowKit

/-- All that lay lies as it lay, but for the blocks of S. -/
structure But (S : Nat → Prop) (W W' : World) : Prop where
  os : W'.os = W.os
  tape : W'.tape = W.tape
  output : W'.output = W.output
  size : W.heap.size ≤ W'.heap.size
  block : ∀ k, k < W.heap.size → ¬ S k → W'.heap[k]? = W.heap[k]?
variable {S : Nat → Prop} {W W' V : World}
theorem But.refl (S : Nat → Prop) (W : World) : But S W W := ⟨rfl, rfl, rfl, Nat.le_refl _, fun _ _ _ => rfl⟩
theorem But.trans (h : But S V W) (k : But S W W') : But S V W' :=
  ⟨k.os.trans h.os, k.tape.trans h.tape, k.output.trans h.output, Nat.le_trans h.size k.size, fun i hi hs => (k.block i (Nat.lt_of_lt_of_le hi h.size) hs).trans (h.block i hi hs)⟩
theorem But.mono {S' : Nat → Prop} (h : But S W W') (hs : ∀ k, S k → S' k) : But S' W W' :=
  ⟨h.os, h.tape, h.output, h.size, fun k hk hn => h.block k hk (fun x => hn (hs k x))⟩
theorem Below.but (h : Below W.heap.size W W') (S : Nat → Prop) : But S W W' := ⟨h.os, h.tape, h.output, h.size, fun k hk _ => h.block k hk⟩
theorem But.drew (h : But S V W) : But S V W.drew := ⟨h.os, h.tape, h.output, h.size, h.block⟩
theorem But.drewN (h : But S V W) (n : Nat) : But S V (W.drewN n) := by
  induction n with
  | zero => exact h
  | succ n ih => exact ⟨ih.os, ih.tape, ih.output, ih.size, ih.block⟩
theorem But.alloc (h : But S V W) (o : Obj) : But S V (W.alloc o) := h.trans (Below.but ((Below.refl _ W).alloc (Nat.le_refl _) o) S)
theorem But.setCell (h : But S V W) {p : Addr} (hp : S p.block) (u : Value) : But S V (W.setCell p u) :=
  h.trans ⟨rfl, rfl, rfl, by simp [World.setCell], fun k hk hs => Below.heap_setCell _ _ _ _ (fun e => hs (e ▸ hp))⟩
/-- A store into a block that is new. -/
theorem But.setNew (h : But S V W) {p : Addr} (hp : V.heap.size ≤ p.block) (u : Value) : But S V (W.setCell p u) :=
  ⟨h.os, h.tape, h.output, Nat.le_trans h.size (by simp [World.setCell]), fun k hk hs => (Below.heap_setCell _ _ _ _ (by omega)).trans (h.block k hk hs)⟩
theorem But.afterBelow (h : But S V W) (k : Below W.heap.size W W') : But S V W' := h.trans (Below.but k S)
theorem But.below {B : Nat} (h : But S W W') (hB : B ≤ W.heap.size) (hS : ∀ k, S k → B ≤ k) : Below B W W' :=
  ⟨h.os, h.tape, h.output, h.size, fun k hk => h.block k (by omega) (fun x => by have := hS k x; omega)⟩
/-- What a later call may write, of blocks that were not there at first. -/
theorem But.thenNew {T : Nat → Prop} (h : But S V W) (k : But T W W') (hT : ∀ i, T i → S i ∨ V.heap.size ≤ i) : But S V W' :=
  ⟨k.os.trans h.os, k.tape.trans h.tape, k.output.trans h.output, Nat.le_trans h.size k.size, fun i hi hs => (k.block i (Nat.lt_of_lt_of_le hi h.size) (fun x => (hT i x).elim hs (fun y => by omega))).trans (h.block i hi hs)⟩
theorem But.cell (h : But S W W') {p : Addr} (hp : p.block < W.heap.size) (hs : ¬ S p.block) : W'.cell? p = W.cell? p := World.cell?_of_block (w := W) (h.block p.block hp hs)
theorem BoxAt.but {g : Nat} {vs : List Value} (h : BoxAt W g vs) (hb : But S W W') (hg : ¬ S g) : BoxAt W' g vs :=
  ⟨fun i v hv => (World.cell?_of_block (w := W) (a := ⟨g, i, none⟩) (hb.block g h.2.2 hg)).trans (h.1 i v hv), fun o => (World.frozen?_of_block (w := W) (a := ⟨g, o, none⟩) (hb.block g h.2.2 hg)).trans (h.2.1 o), Nat.lt_of_lt_of_le h.2.2 hb.size⟩
theorem BoxAt.set {W : World} {g : Nat} {vs : List Value} (h : BoxAt W g vs) (i : Nat) (hi : i < vs.length) (v : Value) : BoxAt (W.setCell ⟨g, i, none⟩ v) g (vs.set i v) := by
  refine ⟨fun j u hj => ?_, fun o => by rw [World.frozen?_setCell]; exact h.2.1 o, by simpa using h.2.2⟩
  by_cases e : i = j
  · subst e
    rw [List.getElem?_set_self hi] at hj
    injection hj with hj
    subst hj
    obtain ⟨u, hu⟩ : ∃ u, vs[i]? = some u := ⟨_, List.getElem?_eq_getElem hi⟩
    have hc := h.1 i u hu
    go_simp
  · rw [List.getElem?_set_ne e] at hj
    rw [World.cell?_setCell_other (h := fun e2 => by injection e2 with _ e2; exact e e2)]
    exact h.1 j u hj
theorem BoxAt.other {W : World} {g b o : Nat} {vs : List Value} (h : BoxAt W g vs) (hb : b ≠ g) (v : Value) : BoxAt (W.setCell ⟨b, o, none⟩ v) g vs := by
  refine ⟨fun j u hj => ?_, fun o => by rw [World.frozen?_setCell]; exact h.2.1 o, by simpa using h.2.2⟩
  rw [World.cell?_setCell_other (h := fun e2 => by injection e2 with e2; exact hb e2)]
  exact h.1 j u hj
theorem hide {p : Prop} (h : p) : Hid p := h
end Go.Proofs.YthhfakkfdohcpaaGreat
/- Small steps of the transfer and of the costs, at locks. No condition. -/
namespace Go.Proofs.YthhfakkfdohcpaaGreat
open Go.RowKit

set_option maxHeartbeats 400000 in
theorem find_true (p : Value) (k : Int) (w : World) : Calls Tryz.prog 241 #[p, .int .i64 k, .bool true] w fun e w' => e = .returned (.tuple #[]) ∧ w = w' := by
  go_enter Tryz.func241, Tryz.ntmps241
  go_wp2
  go_end0
  exact ⟨rfl, rfl⟩
set_option maxHeartbeats 400000 in
theorem possible_true (p : Value) (w : World) : Calls Tryz.prog 243 #[p, .bool true] w fun e w' => e = .returned (.tuple #[]) ∧ w = w' := by
  go_enter Tryz.func243, Tryz.ntmps243
  go_wp2
  go_end0
  exact ⟨rfl, rfl⟩
set_option maxHeartbeats 400000 in
theorem sum_any (a b : Int) (h : 0 ≤ a ∧ a ≤ 1000 ∧ 0 ≤ b ∧ b ≤ 1000) (w : World) : Calls Tryz.prog 162 #[.int .i64 a, .int .i64 b] w fun e w' => e = .returned (.int .i64 (a + b)) ∧ w = w' := by
  have h1 : IntKind.i64.wrap (a + b) = a + b := IntWalk.i64_in _ (by omega)
  have h2 : a + b < 1099511627776 := by omega
  go_enter Tryz.func162, Tryz.ntmps162
  go_wp2
  all_goals
    first
      | (exfalso; omega)
      | (go_ret; exact ⟨by go_num, rfl⟩)
set_option maxRecDepth 100000 in
set_option maxHeartbeats 4000000 in
theorem inner_lock (p0 p1 p2 p3 p4 p5 p6 p7 p8 p9 s : Value) (site op m : Int) (ho : op = 16 ∨ op = 17) (w : World) :
    Calls Tryz.prog 163 #[.agg #[p0, p1, p2, p3, p4, p5, p6, p7, p8, p9, s], .agg #[.int .i64 site, .int .i64 op, .int .i64 0, .int .i64 m, .int .i64 0, .int .i64 0, .int .i64 0, .int .i64 0, .slice none 0 0, .int .i64 0, .int .i64 0, .int .i64 0, .slice none 0 0, .int .i64 0, .slice none 0 0, .slice none 0 0, .slice none 0 0, .slice none 0 0, .slice none 0 0, .slice none 0 0]] w fun e w' => e = .returned (.int .i64 0) ∧ Below w.heap.size w w' := by
  rcases ho with rfl | rfl
  all_goals
    go_enter Tryz.func163, Tryz.ntmps163
    go_wp2
    go_ret
    exact ⟨rfl, (by repeat (first | with_reducible exact Below.refl _ _ | with_reducible refine Below.setCell ?_ (by simp <;> omega) _ | with_reducible refine below_drewN ?_ _ | with_reducible refine Below.drew ?_ | with_reducible refine Below.alloc ?_ (by simp <;> omega) _ | with_reducible refine Below.setCell ?_ (by simp <;> omega) _ | with_reducible refine Below.alloc ?_ (by simp <;> omega) _ | omega | (simp; done)))⟩
end Go.Proofs.YthhfakkfdohcpaaGreat
/- Taking locks: the step that is being made. No condition. -/
namespace Go.Proofs.YthhfakkfdohcpaaGreat
open Go.RowKit

/-- The cells of a step that is being made, of an SLock or SUnlock, in a definition without variables. -/
def wkL (lk : Int) (ps : Value) (p : Nat → Value) (lv id ds : Int) (nm B : Value) (site op m : Int) (G A : Value) (must may pa : Int) (su : Value) : List Value :=
  [.bool false, .slice none 0 0, .slice none 0 0, .slice none 0 0, .slice none 0 0, .int .i64 0, .int .i64 0, .int .i64 0, .bool true, .slice none 0 0, .slice none 0 0, .slice none 0 0, .slice none 0 0, .int .i64 0, .int .i64 0, .int .i64 0, .int .i64 0, .int .i64 lk, .slice none 0 0, ps, .slice none 0 0, p 0, p 1, p 2, p 3, p 4, p 5, p 6, p 7, p 8, p 9, .int .i64 lv, .slice none 0 0, .int .i64 id, .int .i64 ds, nm, .int .i64 0, .int .i64 0, .slice none 0 0, .slice none 0 0] ++
  [.int .i64 0, .int .i64 0, .slice none 0 0, .int .i64 100, B, .int .i64 site, .int .i64 op, .int .i64 0, .int .i64 m, .int .i64 0, .int .i64 0, .int .i64 0, .int .i64 0, .slice none 0 0, .int .i64 0, .int .i64 0, .int .i64 0, .slice none 0 0, .int .i64 0, .slice none 0 0, .slice none 0 0, .slice none 0 0, .slice none 0 0, .slice none 0 0, .slice none 0 0, .bool false, .slice none 0 0, G, .slice none 0 0, A, .int .i64 must, .int .i64 may, .int .i64 pa, su]
theorem BoxAt.as {W : World} {g : Nat} {vs vs' : List Value} (h : BoxAt W g vs) (e : vs = vs') : BoxAt W g vs' := e ▸ h

variable (p : Nat → Value) (su : Value)
set_option maxRecDepth 100000 in
set_option maxHeartbeats 4000000 in
theorem take_none (wk : Nat) (ps : Value) (lv id ds : Int) (nm B : Value) (site op m : Int) (G A : Value) (must pa : Int) (bit : Int) (w : World)
    (h : BoxAt w wk (wkL 0 ps p lv id ds nm B site op m G A must 0 pa su)) (hb : bits BinOp.or IntKind.i64 0 bit = bit) :
    Calls Tryz.prog 275 #[.pointer (some ⟨wk, 0, none⟩), .int .i64 bit] w fun e w' => e = .returned (.tuple #[]) ∧ w' = w.setCell ⟨wk, 17, none⟩ (.int .i64 bit) := by
  have H := hide h; clear h
  have k17 : w.cell? ⟨wk, 17, none⟩ = some (.int .i64 0) := H.out.1 17 _ rfl
  have k71 : w.cell? ⟨wk, 71, none⟩ = some (.int .i64 0) := H.out.1 71 _ rfl
  obtain ⟨kf, kz⟩ := H.out.2
  have a0 : bits BinOp.and IntKind.i64 0 1 = 0 := rfl
  go_enter Tryz.func275, Tryz.ntmps275
  go_wp2_with fail
  go_loop [16] (fun i => ∃ k : Nat, k ≤ 8 ∧ i = .int .i64 k) (fun i => 8 - (intOf i).toNat)
  case atStart => exact ⟨0, by omega, rfl⟩
  case round =>
    obtain ⟨k, hk, rfl⟩ := hrel
    by_cases hlt : k < 8
    · go_wp2_with fail
      go_loop [19] (fun i => ∃ j : Nat, j ≤ 8 ∧ i = .int .i64 j) (fun i => 8 - (intOf i).toNat)
      case atStart => exact ⟨0, by omega, rfl⟩
      case round =>
        obtain ⟨j, hj, rfl⟩ := hrel
        by_cases hlj : j < 8
        · go_wp2_with fail
          all_goals
            go_round
            case rel => exact ⟨j + 1, by omega, by go_num⟩
            case measure => simp [intOf]; omega
        · go_wp2_with fail
          go_round
          case rel => exact ⟨k + 1, by omega, by go_num⟩
          case measure => simp [intOf]; omega
    · go_wp2_with fail
      go_end0
      exact ⟨rfl, rfl⟩
end Go.Proofs.YthhfakkfdohcpaaGreat
/- The first pair is put into a list. No condition. -/
namespace Go.Proofs.YthhfakkfdohcpaaGreat
open Go.RowKit

theorem addr_at (g j : Nat) : (Addr.add ⟨g, 0, none⟩ j) = ⟨g, j, none⟩ := by unfold Addr.add; split <;> simp_all
/-- What a call owns lies in a box. -/
theorem own_box {w : World} {base size n : Nat} {e : TypeId} {v : Value} {xs : List Value} (h : w.ownsRow base e size v n xs) (hn : 0 < n) :
    ∃ g cap, v = .slice (some ⟨g, 0, none⟩) n cap ∧ base ≤ g ∧ BoxAt w g xs ∧ n ≤ cap := by
  obtain ⟨hl, ⟨-, h0⟩ | ⟨g, cap, cur, hv, hg, hh, hc, -, -, ht⟩⟩ := h
  · omega
  · refine ⟨g, cap, hv, hg, ⟨fun i u hi => ?_, fun o => by simp [World.frozen?, hh], (Array.getElem?_eq_some_iff.1 hh).1⟩, hc⟩
    rw [← ht, List.getElem?_take] at hi
    split at hi
    · simp only [World.cell?, hh]
      simpa using hi
    · simp at hi
theorem infoP : ∃ i, Tryz.prog.info? 29 = some i ∧ i.zero = some (.agg #[.int .i64 0, .int .i64 0, .int .i64 0]) ∧ i.size = 3 ∧ i.bytes = 24 := by
  cases hi : Tryz.prog.info? 29 with
  | none => exact absurd hi (by have : (Tryz.prog.info? 29).isSome = true := by kernel_rfl
                                intro e; rw [e] at this; simp at this)
  | some i =>
    have e : (Tryz.prog.info? 29).map (fun i => (i.zero, i.size, i.bytes)) = some (some (.agg #[.int .i64 0, .int .i64 0, .int .i64 0]), 3, 24) := by kernel_rfl
    rw [hi] at e
    simp only [Option.map_some, Option.some.injEq, Prod.mk.injEq] at e
    exact ⟨i, rfl, e⟩
set_option maxRecDepth 100000 in
set_option maxHeartbeats 4000000 in
theorem bs_nil (a b s : Int) (f : Value) (w : World) :
    Calls Tryz.prog 318 #[.slice none 0 0, .agg #[.int .i64 a, .int .i64 b, .int .i64 s], f] w fun e w' => e = .returned (.tuple #[.int .i64 0, .bool false]) ∧ Below w.heap.size w w' := by
  go_enter Tryz.func318, Tryz.ntmps318
  go_wp2_with fail
  go_rounds 1
  go_quiet (fail)
  go_wp2_with fail
  go_ret2
  exact ⟨rfl, (by repeat (first | with_reducible exact Below.refl _ _ | with_reducible exact Below.refl _ _ | with_reducible refine Below.setCell ?_ (by simp <;> omega) _ | with_reducible refine below_drewN ?_ _ | with_reducible refine Below.drew ?_ | with_reducible refine Below.alloc ?_ (by simp <;> omega) _ | with_reducible refine Below.setCell ?_ (by simp <;> omega) _ | with_reducible refine Below.alloc ?_ (by simp <;> omega) _ | with_reducible refine Below.setCell ?_ (by omega) _ | with_reducible refine Below.alloc ?_ (by omega) _ | omega | (simp; done)))⟩
set_option maxRecDepth 100000 in
set_option maxHeartbeats 4000000 in
theorem insertAt_nil (g : Nat) (a b s : Int) (w : World) (h : BoxAt w g [.int .i64 a, .int .i64 b, .int .i64 s]) :
    Calls Tryz.prog 319 #[.slice none 0 0, .int .i64 0, .slice (some ⟨g, 0, none⟩) 1 1] w fun e w' => ∃ g' cap, e = .returned (.slice (some ⟨g', 0, none⟩) 1 cap) ∧ w.heap.size ≤ g' ∧ BoxAt w' g' [.int .i64 a, .int .i64 b, .int .i64 s] ∧ Below w.heap.size w w' := by
  obtain ⟨i0, hi, hz0, hz1, hz2⟩ := infoP
  have H := hide h; clear h
  go_enter Tryz.func319, Tryz.ntmps319
  go_wp2_with (at_builtin; go_loud (refine wpList_append_own _ rfl _ _ 24 rfl w.heap.size 29 i0 _ 3 24 Tryz.underlying24 hi hz0 hz1 hz2 rfl (by decide) _ 0 [] rfl ⟨rfl, .inl ⟨rfl, rfl⟩⟩ ⟨g, 0, none⟩ 1 1 [.int .i64 a, .int .i64 b, .int .i64 s] rfl rfl (fun j u hj => by rw [addr_at]; exact H.out.1 j u hj) (fun u hu => by simp at hu; rcases hu with rfl | rfl | rfl <;> rfl) (by unfold maxLen; omega) (by omega) (Nat.le_refl _) ?_; intro v' w1 hown hgrow hne; obtain ⟨g', cap, rfl, hg, hbox, -⟩ := own_box hown (by omega); have hbox' := hide hbox; clear hbox hown))
  go_ret
  exact ⟨g', cap, rfl, hg, hbox'.out, (Below.refl _ w).grown hgrow (Nat.le_refl _) (fun k e => by first | cases e | (simp [Value.ownBlock] at e))⟩
set_option maxRecDepth 100000 in
set_option maxHeartbeats 4000000 in
theorem insert_nil (a b s : Int) (f : FuncId) (w : World) :
    Calls Tryz.prog 308 #[.slice none 0 0, .agg #[.int .i64 a, .int .i64 b, .int .i64 s], .func (.func f) #[] #[]] w fun e w' => ∃ g' cap, e = .returned (.slice (some ⟨g', 0, none⟩) 1 cap) ∧ w.heap.size ≤ g' ∧ BoxAt w' g' [.int .i64 a, .int .i64 b, .int .i64 s] ∧ Below w.heap.size w w' := by
  go_enter Tryz.func308, Tryz.ntmps308
  go_upto_region 1 with (fail)
  obtain ⟨W, hW⟩ : ∃ V, V = w.alloc (.cells [.int .i64 a, .int .i64 b, .int .i64 s].toArray 29) := ⟨_, rfl⟩
  have b1 := BoxAt.new w [.int .i64 a, .int .i64 b, .int .i64 s] 29
  have hz := World.size_alloc w (.cells [.int .i64 a, .int .i64 b, .int .i64 s].toArray 29)
  have hbW : Below w.heap.size w W := by rw [hW]; exact (Below.refl _ w).alloc (Nat.le_refl _) _
  rw [← hW] at b1 hz ⊢
  clear hW
  have B1 := hide b1
  obtain ⟨k0, k1, k2, kf, kz⟩ := (show W.cell? ⟨w.heap.size, 0, none⟩ = some (.int .i64 a) ∧ W.cell? ⟨w.heap.size, 1, none⟩ = some (.int .i64 b) ∧ W.cell? ⟨w.heap.size, 2, none⟩ = some (.int .i64 s) ∧ (∀ o, W.frozen? ⟨w.heap.size, o, none⟩ = false) ∧ w.heap.size < W.heap.size from ⟨b1.1 0 _ rfl, b1.1 1 _ rfl, b1.1 2 _ rfl, b1.2.1, b1.2.2⟩)
  clear b1
  go_wp2_with (first
    | (go_at_call 318; refine (bs_nil _ _ _ _ _).mono ?_; rintro e w1 ⟨rfl, hb1⟩; have C1 := hide (B1.out.below hb1); obtain ⟨m0, m1, m2, mf, mz⟩ := (show w1.cell? ⟨w.heap.size, 0, none⟩ = some (.int .i64 a) ∧ w1.cell? ⟨w.heap.size, 1, none⟩ = some (.int .i64 b) ∧ w1.cell? ⟨w.heap.size, 2, none⟩ = some (.int .i64 s) ∧ (∀ o, w1.frozen? ⟨w.heap.size, o, none⟩ = false) ∧ w.heap.size < w1.heap.size from ⟨C1.out.1 0 _ rfl, C1.out.1 1 _ rfl, C1.out.1 2 _ rfl, C1.out.2.1, C1.out.2.2⟩))
    | (go_at_call 319; refine (insertAt_nil _ a b s _ (BoxAt.new w1 [.int .i64 a, .int .i64 b, .int .i64 s] 29)).mono ?_; rintro e w2 ⟨g', cap, rfl, hg, hbox, hb2⟩; have hbox' := hide hbox; have hg' := hide hg; clear hbox hg))
  go_ret
  have hB : Below w.heap.size w w2 := (hbW.trans (hb1.mono hbW.size)).trans (((Below.refl w.heap.size w1).alloc (by omega) _).trans (hb2.mono (by simp; omega)))
  exact ⟨g', cap, rfl, by have := hg'.out; simp at this; omega, hbox'.out, hB⟩
end Go.Proofs.YthhfakkfdohcpaaGreat
