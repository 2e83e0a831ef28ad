/- The three lists of descriptions opened to cells. No condition. -/
import Derived.Test.YthpbjceajnaokaaOpn2
namespace Go.Proofs.Ythpbjceajnaokaa
open Go.ChangeShapes Go.WideShapes Go.ChangeAt Go.RowKit Go.Deep

section
variable {H : Type} {enc : TypeId × Value → H} {w : World} {base : Nat} {spare : Nat → Bool} {held : Bool}
set_option maxRecDepth 100000 in
theorem raws_at {fuel k : Nat} {cs : List Value} {y : Option (DataW H × List MemPlace)} (hk : k < cs.length) (hy : y.isSome = true) (h : DataW.trod enc Try.prog w base spare held fuel 22 ((cs.drop k).take 1) = y) :
    ∃ A n c, cs[k]? = some (.slice A n c) ∧ RawsAt w w.heap.size A n := by
  obtain ⟨z, rfl⟩ := Option.isSome_iff_exists.1 hy
  have hd : (cs.drop k).take 1 = [cs[k]] := by rw [List.drop_eq_getElem_cons hk]; rfl
  rw [hd] at h
  have hs : ∃ A n c, cs[k] = .slice A n c := by
    rcases open_slice Try.underlying22 h with ⟨h0, _⟩ | ⟨a, len, cap', m, k', D, Pl, hcs, _⟩
    · simp only [List.cons.injEq, and_true] at h0
      exact ⟨_, _, _, h0⟩
    · simp only [List.cons.injEq, and_true] at hcs
      exact ⟨_, _, _, hcs⟩
  obtain ⟨A, n, c, e⟩ := hs
  rw [e] at h
  exact ⟨A, n, c, by rw [List.getElem?_eq_getElem hk, e], raws_of h⟩
set_option maxRecDepth 100000 in
/-- Three lists of descriptions. -/
theorem open_three {r : Reach} {b0 : Nat} {v : Value} {d : DataW H} {p : List MemPlace} (hv : Value.okWide Try.prog w r b0 23 v) (h : DataW.Trod enc Try.prog w base spare held 23 v d p) :
    ∃ A0 n0 c0 A1 n1 c1 A2 n2 c2, v = .agg #[.slice A0 n0 c0, .slice A1 n1 c1, .slice A2 n2 c2] ∧ RawsAt w w.heap.size A0 n0 ∧ RawsAt w w.heap.size A1 n1 ∧ RawsAt w w.heap.size A2 n2 := by
  obtain ⟨cs, rfl⟩ := okWide_arr Try.underlying23 hv
  obtain ⟨fuel, hf⟩ := h
  obtain ⟨ys, m, _, _, hl, hylen, hg⟩ := DataW.trod_array Try.underlying23 hf
  rw [ps23] at hl
  have g0 : DataW.trod enc Try.prog w base spare held m 22 (((Value.agg cs).cells.toList.drop (0 * Try.prog.cellsOf 22)).take (Try.prog.cellsOf 22)) = ys[0]? := hg 0 (by decide)
  rw [ps22] at g0
  have g1 : DataW.trod enc Try.prog w base spare held m 22 (((Value.agg cs).cells.toList.drop (1 * Try.prog.cellsOf 22)).take (Try.prog.cellsOf 22)) = ys[1]? := hg 1 (by decide)
  rw [ps22] at g1
  have g2 : DataW.trod enc Try.prog w base spare held m 22 (((Value.agg cs).cells.toList.drop (2 * Try.prog.cellsOf 22)).take (Try.prog.cellsOf 22)) = ys[2]? := hg 2 (by decide)
  rw [ps22] at g2
  obtain ⟨A0, n0, c0, e0, w0⟩ := raws_at (by omega) (some_at hylen (by decide)) g0
  obtain ⟨A1, n1, c1, e1, w1⟩ := raws_at (by omega) (some_at hylen (by decide)) g1
  obtain ⟨A2, n2, c2, e2, w2⟩ := raws_at (by omega) (some_at hylen (by decide)) g2
  refine ⟨A0, n0, c0, A1, n1, c1, A2, n2, c2, ?_, w0, w1, w2⟩
  have : cs = #[.slice A0 n0 c0, .slice A1 n1 c1, .slice A2 n2 c2] := by
    apply Array.toList_inj.1
    refine List.ext_getElem? fun i => ?_
    rcases i with _ | _ | _ | i
    · exact e0
    · exact e1
    · exact e2
    · rw [List.getElem?_eq_none (by exact Nat.le_trans (Nat.le_of_eq hl) (by omega))]; rfl
  rw [this]
end
end Go.Proofs.Ythpbjceajnaokaa
