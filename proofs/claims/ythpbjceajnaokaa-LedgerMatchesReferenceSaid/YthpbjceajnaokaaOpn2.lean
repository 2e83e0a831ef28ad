/- The other arguments opened to cells: arrays of two, the change, the three lists of descriptions. No condition. -/
import Derived.Test.YthpbjceajnaokaaOpn
namespace Go.Proofs.Ythpbjceajnaokaa
open Go.ChangeShapes Go.WideShapes Go.ChangeAt Go.RowKit Go.Deep

theorem ps24 : Try.prog.cellsOf 24 = 3 := by kernel_rfl
theorem ps62 : Try.prog.cellsOf 62 = 2 := by kernel_rfl
theorem ps63 : Try.prog.cellsOf 63 = 2 := by kernel_rfl
theorem ps26 : Try.prog.cellsOf 26 = 7 := by kernel_rfl
theorem ps23 : Try.prog.cellsOf 23 = 3 := by kernel_rfl
theorem ps22 : Try.prog.cellsOf 22 = 1 := by kernel_rfl
theorem u64_bd {x : Int} (h : (Lit.int .u64 x).wf = true) : 0 ≤ x ∧ x < 18446744073709551616 := by
  have e1 : IntKind.u64.min = 0 := by decide
  have e2 : IntKind.u64.max = 18446744073709551615 := by decide
  simp only [Lit.wf, e1, e2, Bool.and_eq_true, decide_eq_true_eq] at h
  omega
theorem i64_bd {x : Int} (h : (Lit.int .i64 x).wf = true) : -9223372036854775808 ≤ x ∧ x ≤ 9223372036854775807 := by
  have e1 : IntKind.i64.min = -9223372036854775808 := by decide
  have e2 : IntKind.i64.max = 9223372036854775807 := by decide
  simp only [Lit.wf, e1, e2, Bool.and_eq_true, decide_eq_true_eq] at h
  omega

section
variable {H : Type} {enc : TypeId × Value → H} {w : World} {base : Nat} {spare : Nat → Bool} {held : Bool}
set_option maxRecDepth 100000 in
theorem okWide_arr {r : Reach} {b0 n : Nat} {t e : TypeId} {v : Value} (ht : Try.prog.underlying t = some (.array n e)) (hv : Value.okWide Try.prog w r b0 t v) : ∃ cs, v = .agg cs := by
  simp only [Value.okWide, ht] at hv
  obtain ⟨cs, h1, _⟩ := hv
  exact ⟨cs, h1⟩
set_option maxRecDepth 100000 in
/-- An array of two integers. -/
theorem open_two {r : Reach} {b0 : Nat} {t e : TypeId} {kd : IntKind} {v : Value} {d : DataW H} {p : List MemPlace} (ht : Try.prog.underlying t = some (.array 2 e)) (he : Try.prog.underlying e = some (.int kd)) (hpe : Try.prog.cellsOf e = 1) (hpt : Try.prog.cellsOf t = 2)
    (hv : Value.okWide Try.prog w r b0 t v) (h : DataW.Trod enc Try.prog w base spare held t v d p) : ∃ x0 x1 : Int, v = .agg #[.int kd x0, .int kd x1] ∧ (Lit.int kd x0).wf = true ∧ (Lit.int kd x1).wf = true := by
  obtain ⟨cs, rfl⟩ := okWide_arr ht hv
  obtain ⟨fuel, hf⟩ := h
  obtain ⟨ys, m, _, _, hl, hylen, hg⟩ := DataW.trod_array ht hf
  rw [hpt] at hl
  have g0 : DataW.trod enc Try.prog w base spare held m e (((Value.agg cs).cells.toList.drop (0 * Try.prog.cellsOf e)).take (Try.prog.cellsOf e)) = ys[0]? := hg 0 (by decide)
  rw [hpe] at g0
  have g1 : DataW.trod enc Try.prog w base spare held m e (((Value.agg cs).cells.toList.drop (1 * Try.prog.cellsOf e)).take (Try.prog.cellsOf e)) = ys[1]? := hg 1 (by decide)
  rw [hpe] at g1
  obtain ⟨v0, e0, w0⟩ := int_at he (by omega) (some_at hylen (by decide)) g0
  obtain ⟨v1, e1, w1⟩ := int_at he (by omega) (some_at hylen (by decide)) g1
  refine ⟨v0, v1, ?_, w0, w1⟩
  have : cs = #[.int kd v0, .int kd v1] := by
    apply Array.toList_inj.1
    refine List.ext_getElem? fun i => ?_
    rcases i with _ | _ | i
    · exact e0
    · exact e1
    · rw [List.getElem?_eq_none (by exact Nat.le_trans (Nat.le_of_eq hl) (by omega))]; rfl
  rw [this]
set_option maxRecDepth 100000 in
/-- A change of a chain. -/
theorem open_odd {r : Reach} {b0 : Nat} {v : Value} {d : DataW H} {p : List MemPlace} (hv : Value.okWide Try.prog w r b0 26 v) (h : DataW.Trod enc Try.prog w base spare held 26 v d p) :
    ∃ kd n t tm l0 l1 l2 : Int, v = .agg #[.int .u8 kd, .int .i64 n, .int .u8 t, .int .i64 tm, .int .i64 l0, .int .i64 l1, .int .i64 l2] ∧ (Lit.int .u8 kd).wf = true ∧ (Lit.int .i64 n).wf = true ∧ (Lit.int .u8 t).wf = true ∧ (Lit.int .i64 tm).wf = true ∧ (Lit.int .i64 l0).wf = true ∧ (Lit.int .i64 l1).wf = true ∧ (Lit.int .i64 l2).wf = true := by
  obtain ⟨cs, rfl, _⟩ := okWide_struct Try.underlying26 hv
  obtain ⟨fuel, hf⟩ := h
  obtain ⟨xs, n, _, _, hl, hlen, hf⟩ := DataW.trod_struct Try.underlying26 hf
  rw [ps26] at hl
  have h0 : DataW.trod enc Try.prog w base spare held n 5 (((Value.agg cs).cells.toList.drop 0).take (Try.prog.cellsOf 5)) = xs[0]? := hf 0 _ rfl
  rw [ps5] at h0
  have h1 : DataW.trod enc Try.prog w base spare held n 3 (((Value.agg cs).cells.toList.drop 1).take (Try.prog.cellsOf 3)) = xs[1]? := hf 1 _ rfl
  rw [ps3] at h1
  have h2 : DataW.trod enc Try.prog w base spare held n 5 (((Value.agg cs).cells.toList.drop 2).take (Try.prog.cellsOf 5)) = xs[2]? := hf 2 _ rfl
  rw [ps5] at h2
  have h3 : DataW.trod enc Try.prog w base spare held n 3 (((Value.agg cs).cells.toList.drop 3).take (Try.prog.cellsOf 3)) = xs[3]? := hf 3 _ rfl
  rw [ps3] at h3
  have h4 : DataW.trod enc Try.prog w base spare held n 24 (((Value.agg cs).cells.toList.drop 4).take (Try.prog.cellsOf 24)) = xs[4]? := hf 4 _ rfl
  rw [ps24] at h4
  obtain ⟨y, hy⟩ := Option.isSome_iff_exists.1 (some_at hlen (i := 4) (by decide))
  rw [hy] at h4
  obtain ⟨ys, m, _, _, _, hylen, hg⟩ := DataW.trod_array Try.underlying24 h4
  have c5 : ∀ i, i < 3 → ((((Value.agg cs).cells.toList.drop 4).take 3).drop (i * 1)).take 1 = ((Value.agg cs).cells.toList.drop (4 + i)).take 1 := by
    intro i hi
    rw [Nat.mul_one, List.drop_take, List.drop_drop, List.take_take]
    congr 1
    omega
  have g0 : DataW.trod enc Try.prog w base spare held m 3 (((((Value.agg cs).cells.toList.drop 4).take 3).drop (0 * Try.prog.cellsOf 3)).take (Try.prog.cellsOf 3)) = ys[0]? := hg 0 (by decide)
  rw [ps3, c5 0 (by decide)] at g0
  have g1 : DataW.trod enc Try.prog w base spare held m 3 (((((Value.agg cs).cells.toList.drop 4).take 3).drop (1 * Try.prog.cellsOf 3)).take (Try.prog.cellsOf 3)) = ys[1]? := hg 1 (by decide)
  rw [ps3, c5 1 (by decide)] at g1
  have g2 : DataW.trod enc Try.prog w base spare held m 3 (((((Value.agg cs).cells.toList.drop 4).take 3).drop (2 * Try.prog.cellsOf 3)).take (Try.prog.cellsOf 3)) = ys[2]? := hg 2 (by decide)
  rw [ps3, c5 2 (by decide)] at g2
  obtain ⟨v0, e0, w0⟩ := int_at Try.underlying5 (by omega) (some_at hlen (by decide)) h0
  obtain ⟨v1, e1, w1⟩ := int_at Try.underlying3 (by omega) (some_at hlen (by decide)) h1
  obtain ⟨v2, e2, w2⟩ := int_at Try.underlying5 (by omega) (some_at hlen (by decide)) h2
  obtain ⟨v3, e3, w3⟩ := int_at Try.underlying3 (by omega) (some_at hlen (by decide)) h3
  obtain ⟨v4, e4, w4⟩ := int_at Try.underlying3 (by omega) (some_at hylen (by decide)) g0
  obtain ⟨v5, e5, w5⟩ := int_at Try.underlying3 (by omega) (some_at hylen (by decide)) g1
  obtain ⟨v6, e6, w6⟩ := int_at Try.underlying3 (by omega) (some_at hylen (by decide)) g2
  refine ⟨v0, v1, v2, v3, v4, v5, v6, ?_, w0, w1, w2, w3, w4, w5, w6⟩
  have : cs = #[.int .u8 v0, .int .i64 v1, .int .u8 v2, .int .i64 v3, .int .i64 v4, .int .i64 v5, .int .i64 v6] := by
    apply Array.toList_inj.1
    refine List.ext_getElem? fun i => ?_
    rcases i with _ | _ | _ | _ | _ | _ | _ | i
    · exact e0
    · exact e1
    · exact e2
    · exact e3
    · exact e4
    · exact e5
    · exact e6
    · rw [List.getElem?_eq_none (by exact Nat.le_trans (Nat.le_of_eq hl) (by omega))]; rfl
  rw [this]
end
end Go.Proofs.Ythpbjceajnaokaa
