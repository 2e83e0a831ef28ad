/- A row of claims of the call's own that is written in place. No condition. -/
import Derived.Test.YthpbjceajnaokaaCmp
import Derived.Deep.MidRow
import Derived.StillTailTactics
namespace Go.Proofs.Ythpbjceajnaokaa
open Go.RowKit

/-- Block g is a row of claims: xs first, whatever behind. -/
def Row (w : World) (g cap : Nat) (xs : List Cl) : Prop :=
  ∃ cur : Array Value, w.heap[g]? = some (.cells cur 29 (0, 0)) ∧ xs.length ≤ cap ∧ cap ≤ maxLen ∧ cur.size = cap * 9 ∧ ∀ k c, xs[k]? = some c → ∀ j u, c.cells[j]? = some u → cur[k * 9 + j]? = some u

theorem OwC.toRow {w : World} {base g n cap : Nat} {xs : List Cl} (h : OwC w base (.slice (some ⟨g, 0, none⟩) n cap) n xs) : Row w g cap xs := by
  have hl := h.len
  rcases h.2 with ⟨h1, _⟩ | ⟨g', cap', cur, hv, hb, hg, hn, hm, hs, ht⟩
  · cases h1
  · injection hv with e1 e2 e3
    injection e1 with e1
    injection e1 with e1
    subst e1 e3
    refine ⟨cur, hg, by omega, hm, hs, fun k c hk j u hu => ?_⟩
    have hj : j < 9 := by
      have := (List.getElem?_eq_some_iff.1 hu).1
      simpa [Cl.cells] using this
    have h1 := flat_at xs k j c hk hj
    rw [hu, ← ht, List.getElem?_take] at h1
    split at h1
    · simpa using h1
    · cases h1
theorem Row.toOwC {w : World} {base g cap : Nat} {xs : List Cl} (h : Row w g cap xs) (hb : base ≤ g) : OwC w base (.slice (some ⟨g, 0, none⟩) xs.length cap) xs.length xs := by
  obtain ⟨cur, hg, hn, hm, hs, hc⟩ := h
  refine ⟨flat_length xs, .inr ⟨g, cap, cur, rfl, hb, hg, hn, hm, hs, ?_⟩⟩
  apply List.ext_getElem?
  intro i
  rw [List.getElem?_take]
  split
  · rename_i hi
    have hk : i / 9 < xs.length := by omega
    have h1 : (flat xs)[i]? = some ((flat xs)[i]'(by rw [flat_length]; exact hi)) := List.getElem?_eq_getElem _
    obtain ⟨k, j, c, e, hj, hk, hu⟩ := flat_split xs i _ h1
    rw [h1]
    have := hc k c hk j _ hu
    rw [← e] at this
    simpa using this
  · rename_i hi
    rw [List.getElem?_eq_none (by rw [flat_length]; omega)]
theorem Row.lt {w : World} {g cap : Nat} {xs : List Cl} (h : Row w g cap xs) : g < w.heap.size := by
  obtain ⟨cur, hg, _⟩ := h
  exact (Array.getElem?_eq_some_iff.1 hg).1
theorem Row.at_ {w : World} {g cap : Nat} {xs : List Cl} (h : Row w g cap xs) {k : Nat} {c : Cl} (hk : xs[k]? = some c) : IsCl w g (k * 9) c := by
  obtain ⟨cur, hg, _, _, _, hc⟩ := h
  refine IsCl.of_cells fun j u hu => ?_
  rw [cell_of_row w g (k * 9 + j) cur 29 (0, 0) hg]
  exact hc k c hk j u hu
theorem Row.below {w w' : World} {g cap : Nat} {xs : List Cl} (h : Row w g cap xs) (hb : Below w.heap.size w w') : Row w' g cap xs := by
  have hl := h.lt
  obtain ⟨cur, hg, r⟩ := h
  exact ⟨cur, (hb.block g hl).trans hg, r⟩
theorem Row.drew {w : World} {g cap : Nat} {xs : List Cl} (h : Row w g cap xs) : Row w.drew g cap xs := h
theorem Row.slc {w : World} {g cap : Nat} {xs : List Cl} (h : Row w g cap xs) : SlC w w.heap.size (some ⟨g, 0, none⟩) xs.length xs := (h.toOwC (Nat.zero_le g)).slc

def putCells (cur : Array Value) : Nat → List Value → Array Value
  | _, [] => cur
  | o, v :: r => putCells (cur.setIfInBounds o v) (o + 1) r
theorem putCells_size (vs : List Value) : ∀ (cur : Array Value) (o : Nat), (putCells cur o vs).size = cur.size := by
  induction vs with
  | nil => intro cur o; rfl
  | cons v r ih => intro cur o; rw [putCells, ih]; simp
theorem putCells_at (vs : List Value) : ∀ (cur : Array Value) (o i : Nat), i < cur.size → (putCells cur o vs)[i]? = if o ≤ i ∧ i < o + vs.length then vs[i - o]? else cur[i]? := by
  induction vs with
  | nil =>
    intro cur o i hi
    have h0 : ¬ (o ≤ i ∧ i < o + ([] : List Value).length) := by simp only [List.length_nil]; omega
    rw [putCells, if_neg h0]
  | cons v r ih =>
    intro cur o i hi
    rw [putCells, ih _ _ _ (by simpa using hi)]
    by_cases h1 : o = i
    · subst h1
      rw [if_neg (by omega), if_pos (by simp), Array.getElem?_setIfInBounds_self_of_lt hi]
      simp
    · by_cases h2 : o + 1 ≤ i ∧ i < o + 1 + r.length
      · rw [if_pos h2, if_pos (by simp only [List.length_cons]; omega)]
        rw [show i - o = (i - (o + 1)) + 1 by omega, List.getElem?_cons_succ]
      · rw [if_neg h2, if_neg (by simp only [List.length_cons]; omega), Array.getElem?_setIfInBounds_ne h1]
theorem heap_setCells (g : Nat) (vs : List Value) : ∀ (o : Nat) (w : World) (cur : Array Value) (t : TypeId) (fr : Nat × Nat), w.heap[g]? = some (.cells cur t fr) → (w.setCells g o vs).heap[g]? = some (.cells (putCells cur o vs) t fr) := by
  induction vs with
  | nil => intro o w cur t fr h; exact h
  | cons v r ih =>
    intro o w cur t fr h
    rw [World.setCells, putCells]
    refine ih (o + 1) _ _ t fr ?_
    simp [World.setCell, Array.getElem?_modify, h]
theorem grown_setCells (g : Nat) (vs : List Value) : ∀ (o : Nat) (w : World), w.grownBy (w.setCells g o vs) (some g) := by
  induction vs with
  | nil => intro o w; exact grow_refl w _
  | cons v r ih =>
    intro o w
    have h1 : w.grownBy (w.setCell ⟨g, o, none⟩ v) (some g) := ⟨rfl, rfl, rfl, by simp, fun k _ hk => Below.heap_setCell w ⟨g, o, none⟩ v k (fun e => hk (congrArg some e))⟩
    exact h1.trans (ih (o + 1) (w.setCell ⟨g, o, none⟩ v))
theorem Row.set {w : World} {g cap : Nat} {xs : List Cl} (h : Row w g cap xs) {i : Nat} (hi : i < xs.length) (c : Cl) : Row (w.setCells g (i * 9) c.cells) g cap (xs.set i c) := by
  obtain ⟨cur, hg, hn, hm, hs, hc⟩ := h
  refine ⟨_, heap_setCells g _ _ _ _ _ _ hg, by simpa using hn, hm, by rw [putCells_size]; exact hs, fun k d hk j u hu => ?_⟩
  have hj : j < 9 := by
    have := (List.getElem?_eq_some_iff.1 hu).1
    simpa [Cl.cells] using this
  have hkl : k < xs.length := by
    have := (List.getElem?_eq_some_iff.1 hk).1
    simpa using this
  rw [putCells_at _ _ _ _ (by rw [hs]; omega)]
  by_cases hki : k = i
  · subst hki
    rw [List.getElem?_set_self hi] at hk
    injection hk with hk
    subst hk
    rw [if_pos (by simp [Cl.cells]; omega), show k * 9 + j - k * 9 = j by omega]
    exact hu
  · rw [List.getElem?_set_ne (by omega)] at hk
    rw [if_neg (by simp [Cl.cells]; omega)]
    exact hc k d hk j u hu
theorem Row.there {w : World} {g cap : Nat} {xs : List Cl} (h : Row w g cap xs) {i : Nat} (hi : i < xs.length) : w.there g (i * 9) 9 := by
  obtain ⟨cur, hg, hn, hm, hs, hc⟩ := h
  intro j hj
  refine ⟨?_, ?_⟩
  · rw [cell_of_row w g _ cur 29 (0, 0) hg, Array.getElem?_eq_getElem (by rw [hs]; omega)]; rfl
  · simp [World.frozen?, hg]
theorem Row.frozen {w : World} {g cap : Nat} {xs : List Cl} (h : Row w g cap xs) (o : Nat) : w.frozen? ⟨g, o, none⟩ = false := by
  obtain ⟨cur, hg, _⟩ := h
  simp [World.frozen?, hg]
theorem grown_drew {a w : World} {row : Option Nat} (h : a.grownBy w row) : a.grownBy w.drew row := ⟨h.os, h.tape, h.output, h.size, h.block⟩
theorem chain9 (w : World) (b o : Nat) (c : Cl) : (((((((((w.setCell ⟨b, o, none⟩ (.int .i64 c.firm)).setCell ⟨b, o + 1, none⟩ (.int .i64 c.seq)).setCell ⟨b, o + 2, none⟩ (.int .i64 c.time)).setCell ⟨b, o + 3, none⟩ (.int .i64 c.kind)).setCell ⟨b, o + 4, none⟩ (.int .i64 c.a)).setCell ⟨b, o + 5, none⟩ (.int .u64 c.ref)).setCell ⟨b, o + 6, none⟩ (.int .u64 c.aux)).setCell ⟨b, o + 7, none⟩ (.int .u64 c.prev)).setCell ⟨b, o + 8, none⟩ (.int .u64 c.tag)) = w.setCells b o c.cells := rfl
theorem swap_grown {w w0 : World} {g q : Nat} {x y : Cl} (h : w0.grownBy w (some g)) : w0.grownBy (((((((((((((((((((w.setCell ⟨g, (q + 1) * 9, none⟩ (.int .i64 y.firm)).setCell ⟨g, (q + 1) * 9 + 1, none⟩ (.int .i64 y.seq)).setCell ⟨g, (q + 1) * 9 + 2, none⟩ (.int .i64 y.time)).setCell ⟨g, (q + 1) * 9 + 3, none⟩ (.int .i64 y.kind)).setCell ⟨g, (q + 1) * 9 + 4, none⟩ (.int .i64 y.a)).setCell ⟨g, (q + 1) * 9 + 5, none⟩ (.int .u64 y.ref)).setCell ⟨g, (q + 1) * 9 + 6, none⟩ (.int .u64 y.aux)).setCell ⟨g, (q + 1) * 9 + 7, none⟩ (.int .u64 y.prev)).setCell ⟨g, (q + 1) * 9 + 8, none⟩ (.int .u64 y.tag)).setCell ⟨g, q * 9, none⟩ (.int .i64 x.firm)).setCell ⟨g, q * 9 + 1, none⟩ (.int .i64 x.seq)).setCell ⟨g, q * 9 + 2, none⟩ (.int .i64 x.time)).setCell ⟨g, q * 9 + 3, none⟩ (.int .i64 x.kind)).setCell ⟨g, q * 9 + 4, none⟩ (.int .i64 x.a)).setCell ⟨g, q * 9 + 5, none⟩ (.int .u64 x.ref)).setCell ⟨g, q * 9 + 6, none⟩ (.int .u64 x.aux)).setCell ⟨g, q * 9 + 7, none⟩ (.int .u64 x.prev)).setCell ⟨g, q * 9 + 8, none⟩ (.int .u64 x.tag))).drew (some g) := by
  rw [chain9 w g ((q + 1) * 9) y, chain9 _ g (q * 9) x]
  exact grown_drew ((h.trans (grown_setCells g _ _ _)).trans (grown_setCells g _ _ _))
theorem size29 : (Try.prog.info? 29).map (·.size) = some 9 := by kernel_rfl

theorem swap_row {w : World} {g cap q : Nat} {zs : List Cl} {x y : Cl} (h : Row w g cap zs) (hq : q + 1 < zs.length) : Row (((((((((((((((((((w.setCell ⟨g, (q + 1) * 9, none⟩ (.int .i64 y.firm)).setCell ⟨g, (q + 1) * 9 + 1, none⟩ (.int .i64 y.seq)).setCell ⟨g, (q + 1) * 9 + 2, none⟩ (.int .i64 y.time)).setCell ⟨g, (q + 1) * 9 + 3, none⟩ (.int .i64 y.kind)).setCell ⟨g, (q + 1) * 9 + 4, none⟩ (.int .i64 y.a)).setCell ⟨g, (q + 1) * 9 + 5, none⟩ (.int .u64 y.ref)).setCell ⟨g, (q + 1) * 9 + 6, none⟩ (.int .u64 y.aux)).setCell ⟨g, (q + 1) * 9 + 7, none⟩ (.int .u64 y.prev)).setCell ⟨g, (q + 1) * 9 + 8, none⟩ (.int .u64 y.tag)).setCell ⟨g, q * 9, none⟩ (.int .i64 x.firm)).setCell ⟨g, q * 9 + 1, none⟩ (.int .i64 x.seq)).setCell ⟨g, q * 9 + 2, none⟩ (.int .i64 x.time)).setCell ⟨g, q * 9 + 3, none⟩ (.int .i64 x.kind)).setCell ⟨g, q * 9 + 4, none⟩ (.int .i64 x.a)).setCell ⟨g, q * 9 + 5, none⟩ (.int .u64 x.ref)).setCell ⟨g, q * 9 + 6, none⟩ (.int .u64 x.aux)).setCell ⟨g, q * 9 + 7, none⟩ (.int .u64 x.prev)).setCell ⟨g, q * 9 + 8, none⟩ (.int .u64 x.tag))).drew g cap ((zs.set (q + 1) y).set q x) := by
  rw [chain9 w g ((q + 1) * 9) y, chain9 _ g (q * 9) x]
  exact ((h.set hq y).set (i := q) (by rw [List.length_set]; omega) x).drew
theorem wpList_store_row {w : World} {ops : Array Oper} {rest : List Oper} {o : Oper} {a : Act} {Q : Exit → Act → World → Prop} (hgd : o.guard = none) (x y : Operand) (ho : o.op = .store 29 x y)
    (g cap i : Nat) (xs : List Cl) (c : Cl) (hx : a.eval x = .pointer (some ⟨g, i * 9, none⟩)) (hy : a.eval y = .agg #[.int .i64 c.firm, .int .i64 c.seq, .int .i64 c.time, .int .i64 c.kind, .int .i64 c.a, .int .u64 c.ref, .int .u64 c.aux, .int .u64 c.prev, .int .u64 c.tag]) (h : Row w g cap xs) (hi : i < xs.length)
    (hK : ∀ w', Row w' g cap (xs.set i c) → w.grownBy w' (some g) → wpList Try.prog ops Q rest (a.put o.dst undef) w') : wpList Try.prog ops Q (o :: rest) a w :=
  wpList_store_mid hgd 29 x y ho g (i * 9) (#[.int .i64 c.firm, .int .i64 c.seq, .int .i64 c.time, .int .i64 c.kind, .int .i64 c.a, .int .u64 c.ref, .int .u64 c.aux, .int .u64 c.prev, .int .u64 c.tag]) hx hy (h.there hi) size29 (all_oneCell_toArray (cs := c.cells) (by simp [Cl.cells, Value.oneCell'])) (hK _ (h.set hi c) (grown_setCells g _ _ _))
end Go.Proofs.Ythpbjceajnaokaa
