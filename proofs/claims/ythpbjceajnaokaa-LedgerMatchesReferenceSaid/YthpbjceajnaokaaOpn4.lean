/- A claim opened to cells, with what is known of its numbers. No condition. -/
import Derived.Test.YthpbjceajnaokaaOpn3
namespace Go.Proofs.Ythpbjceajnaokaa
open Go.ChangeShapes Go.WideShapes Go.ChangeAt Go.RowKit Go.Deep

section
variable {H : Type} {enc : TypeId × Value → H} {w : World} {base : Nat} {spare : Nat → Bool} {held : Bool}
theorem claim_wf {c : Cl} {fuel : Nat} {x : DataW H × List MemPlace} (h : DataW.trod enc Try.prog w base spare held fuel 29 c.cells = some x) : wfC c := by
  obtain ⟨xs, n, _, _, hl, hlen, hf⟩ := DataW.trod_struct Try.underlying29 h
  rw [ps29] at hl
  have h1 : DataW.trod enc Try.prog w base spare held n 3 ((c.cells.drop 1).take (Try.prog.cellsOf 3)) = xs[1]? := hf 1 _ rfl
  rw [ps3] at h1
  have h4 : DataW.trod enc Try.prog w base spare held n 3 ((c.cells.drop 4).take (Try.prog.cellsOf 3)) = xs[4]? := hf 4 _ rfl
  rw [ps3] at h4
  obtain ⟨v1, e1, w1⟩ := int_at Try.underlying3 (by omega) (some_at hlen (by decide)) h1
  obtain ⟨v4, e4, w4⟩ := int_at Try.underlying3 (by omega) (some_at hlen (by decide)) h4
  have g1 : c.cells[1]? = some (.int .i64 c.seq) := rfl
  have g4 : c.cells[4]? = some (.int .i64 c.a) := rfl
  rw [g1] at e1
  rw [g4] at e4
  injection e1 with e1
  injection e1 with _ e1
  injection e4 with e4
  injection e4 with _ e4
  exact ⟨by rw [e1]; exact w1, by rw [e4]; exact w4⟩
set_option maxRecDepth 100000 in
theorem open_claim2 {r : Reach} {b0 : Nat} {v : Value} {d : DataW H} {p : List MemPlace} (hv : Value.okWide Try.prog w r b0 29 v) (h : DataW.Trod enc Try.prog w base spare held 29 v d p) : ∃ c : Cl, v = .agg #[.int .i64 c.firm, .int .i64 c.seq, .int .i64 c.time, .int .i64 c.kind, .int .i64 c.a, .int .u64 c.ref, .int .u64 c.aux, .int .u64 c.prev, .int .u64 c.tag] ∧ wfC c := by
  obtain ⟨c, rfl⟩ := open_claim hv h
  obtain ⟨fuel, hf⟩ := h
  exact ⟨c, rfl, claim_wf hf⟩
end
end Go.Proofs.Ythpbjceajnaokaa
