/- The library's IndexFunc and DeleteFunc on claims, at a predicate that only makes memory. Condition: at most 100000 claims. -/
import Derived.Test.YthpbjceajnaokaaMap2
namespace Go.Proofs.Ythpbjceajnaokaa
open Go.RowKit

/-- What the predicate says of the claims of a list, in every world that has come of w by growth and writes to one row. -/
def PredC (w : World) (g : Nat) (a1 a2 a3 : Value) (pr : Cl → Bool) (xs : List Cl) : Prop :=
  ∀ W, w.grownBy W (some g) → ∀ c ∈ xs, Calls Try.prog 55 #[.agg #[.int .i64 c.firm, .int .i64 c.seq, .int .i64 c.time, .int .i64 c.kind, .int .i64 c.a, .int .u64 c.ref, .int .u64 c.aux, .int .u64 c.prev, .int .u64 c.tag], a1, a2, a3] W fun e w' => e = .returned (.bool (pr c)) ∧ Below W.heap.size W w'
def IdxPost (pr : Cl → Bool) (xs : List Cl) (w : World) (e : Ending) (w' : World) : Prop :=
  ∃ r : Int, e = .returned (.int .i64 r) ∧ Below w.heap.size w w' ∧ ((r = -1 ∧ xs.any pr = false) ∨ ∃ k c, r = (k : Nat) ∧ xs[k]? = some c ∧ pr c = true ∧ (xs.take k).any pr = false)

theorem any_take_more {pr : Cl → Bool} {xs : List Cl} {k : Nat} {c : Cl} (hx : xs[k]? = some c) (h : (xs.take k).any pr = false) (hc : pr c = false) : (xs.take (k + 1)).any pr = false := by
  rw [take_snoc hx, List.any_append, h]; simp [hc]

set_option maxRecDepth 100000 in
set_option maxHeartbeats 1000000 in
theorem index_any (A : Option Addr) (n cap g : Nat) (a1 a2 a3 : Value) (pr : Cl → Bool) (xs : List Cl) (w : World) (ha : SlC w w.heap.size A n xs) (hn : n ≤ 100000) (hp : PredC w g a1 a2 a3 pr xs) :
    Calls Try.prog 64 #[.slice A n cap, .func (.func 55) #[] #[a1, a2, a3]] w (IdxPost pr xs w) := by
  have Ha := hide ha; clear ha
  have Hp := hide hp; clear hp
  go_enter Try.func64, Try.ntmps64
  go_wp2
  go_loopw [8] (fun i wr => ∃ k : Nat, k ≤ n ∧ i = .int .i64 k ∧ (xs.take k).any pr = false ∧ Below w.heap.size w wr) (fun i _ => n - (intOf i).toNat)
  case atStart => exact ⟨0, by omega, rfl, rfl, Below.refl _ _⟩
  case round =>
    obtain ⟨k, hk, rfl, hno, hbl⟩ := hrel
    have Hno := hide hno; clear hno
    have Hbl := hide hbl; clear hbl
    by_cases hlt : k < n
    · obtain ⟨b, off, c, rfl, hb, hx, hc⟩ := Ha.out.at_ hlt
      obtain ⟨g0, g1, g2, g3, g4, g5, g6, g7, g8⟩ := hc.keep (w' := wr) (fun o => Hbl.out.cell (p := ⟨b, o, none⟩) hb)
      have Hx := hide hx; clear hx
      clear hc
      go_wp2_with fail
      refine (Hp.out wr (grown_below Hbl.out _) c (List.mem_of_getElem? Hx.out)).mono ?_
      rintro e w1 ⟨rfl, hb1⟩
      have Hb1 := hide (Hbl.out.trans (hb1.mono Hbl.out.size)); clear hb1
      cases ho : pr c
      · have Ho := hide ho; clear ho
        go_wp2
        go_roundw
        case rel => exact ⟨k + 1, by omega, by go_num, any_take_more Hx.out Hno.out Ho.out, Hb1.out⟩
        case measure => simp [intOf]; omega
      · have Ho := hide ho; clear ho
        go_wp2
        go_ret
        exact ⟨k, rfl, Hb1.out, .inr ⟨k, c, rfl, Hx.out, Ho.out, Hno.out⟩⟩
    · go_wp2
      go_ret
      exact ⟨-1, rfl, Hbl.out, .inl ⟨rfl, by rw [← List.take_of_length_le (l := xs) (i := k) (by rw [Ha.out.1]; omega)]; exact Hno.out⟩⟩

theorem Row.cut {w : World} {g cap : Nat} {xs : List Cl} (h : Row w g cap xs) (i : Nat) (hi : i ≤ xs.length) (vs : List Value) : Row (w.setCells g (i * 9) vs) g cap (xs.take i) := by
  obtain ⟨cur, hg, hn, hm, hs, hc⟩ := h
  refine ⟨_, heap_setCells g _ _ _ _ _ _ hg, by rw [List.length_take]; omega, hm, by rw [putCells_size]; exact hs, fun k d hk j u hu => ?_⟩
  have hj : j < 9 := by
    have := (List.getElem?_eq_some_iff.1 hu).1
    simpa [Cl.cells] using this
  rw [List.getElem?_take] at hk
  split at hk
  · rename_i hki
    have h1 := hc k d hk j u hu
    have h2 : k * 9 + j < cur.size := (Array.getElem?_eq_some_iff.1 h1).1
    rw [putCells_at _ _ _ _ h2, if_neg (by omega)]
    exact h1
  · cases hk

theorem run_clear_row {w : World} {g cap i k c : Nat} {xs : List Cl} (h : Row w g cap xs) (hk : 0 < k) (hik : i + k ≤ cap) (hi : i ≤ xs.length) (ty : TypeId) :
    ∃ w', (Builtin.clear_ #[33] ty #[.slice (some ⟨g, i * 9, none⟩) k c]).run Try.prog w = .ok (.tuple #[]) w' ∧ Row w' g cap (xs.take i) ∧ w.grownBy w' (some g) := by
  obtain ⟨inf, hinf, hz0, hz1, hz2⟩ := info_parts Cl.info
  obtain ⟨m, rfl⟩ : ∃ m, k = m + 1 := ⟨k - 1, by omega⟩
  have hcut := h.cut i hi (Builtin.zeroCells (Value.agg #[.int .i64 0, .int .i64 0, .int .i64 0, .int .i64 0, .int .i64 0, .int .u64 0, .int .u64 0, .int .u64 0, .int .u64 0]).cells (m + 1)).toList
  have hsz : (Builtin.zeroCells (Value.agg #[.int .i64 0, .int .i64 0, .int .i64 0, .int .i64 0, .int .i64 0, .int .u64 0, .int .u64 0, .int .u64 0, .int .u64 0]).cells (m + 1)).toList.length = (m + 1) * 9 := by
    rw [Array.length_toList, size_zeroCells]; rfl
  have hone : ∀ v ∈ (Builtin.zeroCells (Value.agg #[.int .i64 0, .int .i64 0, .int .i64 0, .int .i64 0, .int .i64 0, .int .u64 0, .int .u64 0, .int .u64 0, .int .u64 0]).cells (m + 1)).toList, v.oneCell' = true := by
    intro v hv
    simp only [Builtin.zeroCells, Array.toList_map, List.mem_map] at hv
    obtain ⟨j, _, rfl⟩ := hv
    simp only [Value.cells]
    have hj : j % 9 < 9 := Nat.mod_lt _ (by omega)
    show (#[Value.int .i64 0, .int .i64 0, .int .i64 0, .int .i64 0, .int .i64 0, .int .u64 0, .int .u64 0, .int .u64 0, .int .u64 0][j % 9]!).oneCell' = true
    generalize j % 9 = r at hj
    rcases r with _ | _ | _ | _ | _ | _ | _ | _ | _ | r <;> first | rfl | omega
  have hzr : (zeroValue 29).run Try.prog w = .ok (Value.agg #[.int .i64 0, .int .i64 0, .int .i64 0, .int .i64 0, .int .i64 0, .int .u64 0, .int .u64 0, .int .u64 0, .int .u64 0]) w := by
    simp [zeroValue, typeInfo, hinf, hz0]
  generalize hzs : Builtin.zeroCells (Value.agg #[.int .i64 0, .int .i64 0, .int .i64 0, .int .i64 0, .int .i64 0, .int .u64 0, .int .u64 0, .int .u64 0, .int .u64 0]).cells (m + 1) = zs at *
  obtain ⟨cur, hg, hn, hm, hs, hc⟩ := h
  have hst := run_storeCells_cells (P := Try.prog) g (i * 9) zs.toList 0 w (fun j hj => by
      rw [cell_of_row w g _ cur 29 (0, 0) hg, Array.getElem?_eq_getElem (by rw [hs]; omega)]; rfl) (fun j _ => by simp [World.frozen?, hg]) hone
  refine ⟨w.setCells g (i * 9) zs.toList, ?_, hcut, grown_setCells g _ _ _⟩
  simp only [Nat.add_zero] at hst
  simp [Builtin.clear_, run_underlying Try.underlying33, hzr, hzs, hst]

theorem wpList_clear_run {w : World} {ops : Array Oper} {rest : List Oper} {o : Oper} {a : Act} {Q : Exit → Act → World → Prop} (hgd : o.guard = none) (s : Operand)
    (ho : o.op = .call { callee := .builtin .clear, args := #[s], argTypes := #[33] }) (vs : Value) (hs : a.eval s = vs) (v' : Value) (w' : World)
    (hr : (Builtin.clear_ #[33] o.type #[vs]).run Try.prog w = .ok v' w') (h : wpList Try.prog ops Q rest (a.put o.dst v') w') : wpList Try.prog ops Q (o :: rest) a w :=
  wpList_plain hgd fun _ hK => by
    unfold Oper.wp execOp
    simp only [ho, resolve, invoke, builtin, Sem.run_bind, Sem.run_pure, Result.andThen_ok, List.map_toArray, List.map_cons, List.map_nil, hs, hr]
    exact hK _ _ h
end Go.Proofs.Ythpbjceajnaokaa
