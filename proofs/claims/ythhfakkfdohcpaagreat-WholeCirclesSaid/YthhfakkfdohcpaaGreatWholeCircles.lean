/- WholeCircles: for every list of pairs of bytes, WholeCircles answers true, and its argument reads as it did. Condition: none. -/
import Derived.Test.YthhfakkfdohcpaaGreatM35
import Derived.Test.YthhfakkfdohcpaaGreatM36
import Derived.Test.YthhfakkfdohcpaaGreatM37
import Derived.Test.YthhfakkfdohcpaaGreatM38
namespace Go.Proofs.YthhfakkfdohcpaaGreat
open Go.ChangeShapes Go.WideShapes Go.ChangeAt Go.RowKit

set_option maxRecDepth 100000 in
theorem circles_lifted (os : Os) (started : os.Started) (H : Type) (enc : TypeId × Value → H) :
    ReturnsInHanded {} Tryz.checked os 3 .any (Rows.wholeCirclesSpec.pre6 enc Tryz.prog Tryz.f3 Rows.wholeCirclesRow.domain false) (Rows.wholeCirclesSpec.post enc Tryz.prog Tryz.f3 false true false false) := by
  refine returnsInHanded_of_change (C := Tryz.checked) ownHere started (by kernel_rfl) Tryz.func3
    (ChangeSpec.witness6 (enc := enc) (C := Tryz.checked) false ⟨#[], #[.slice none 0 0], []⟩ 8 (by kernel_rfl) (by kernel_rfl) (by kernel_rfl) (by kernel_rfl)) ?_
  intro W base args ds gs before hval0 hW hcnd _
  have hval : ∀ (j : Nat) t v, Tryz.f3.params[j]? = some t → args[j]? = some v → Value.okWide Tryz.prog W .any base t v := hval0
  have hW' := hW
  obtain ⟨p, q, hA0, hV, rfl, hfz, hnd⟩ := hW
  have hA : DataW.TrodAll enc Tryz.prog W 0 (fun _ => true) true Tryz.f3.params.toList args.toList ds p := hA0
  rw [Tryz.params3] at hA hval
  obtain ⟨v0, d0, rfl, rfl, h0⟩ := trodAll_one hA
  obtain ⟨rfl, rfl⟩ := trodVars_none hV
  obtain ⟨A, n, c, rfl⟩ := okWide_slice Tryz.underlying22 (hval 0 22 v0 rfl rfl)
  obtain ⟨fuel, hf⟩ := h0
  have hb0 : BytesAt W W.heap.size A n := bytes_of hf
  refine (law_walk A n c W hb0).mono fun e W' ⟨he, hb⟩ => ?_
  subst he
  exact ⟨_, rfl, law_post hW' rfl rfl rfl (by intro t ht; rw [Tryz.params3] at ht; simp only [List.mem_cons, List.not_mem_nil, or_false] at ht; subst ht; exact ⟨by kernel_rfl, of_decide_eq_true (by kernel_rfl)⟩) hb⟩

theorem circles_closed : joinedFacts Tryz.prog 3 Tryz.f3 Rows.wholeCirclesSpec Rows.wholeCirclesRow = true := by
  unfold joinedFacts
  rw [fc_place, fc_unf, fc_rec, fc_named, fd_wf, fd_laid, fd_maps, fd_heard, fd_may, fd_lift, fd_make, fd_plain]
  kernel_rfl
theorem circles_wrap : Tryz.f3.isWrapper Tryz.prog Rows.wholeCirclesRow.wrapper Rows.wholeCirclesRow.mainSum := by
  unfold Func.isWrapper
  first
    | (rw [if_pos (by decide +kernel)]; kernel_rfl)
    | (rw [if_neg (by decide +kernel)]; exact ⟨rfl, rfl⟩)
theorem circles_holds : Rows.WholeCirclesSaid :=
  OpenClaim.holds_of_wide 3 Tryz.f3 rfl rfl rfl rfl rfl rfl rfl ⟨rfl, rfl, rfl, rfl, rfl⟩ rfl rfl rfl rfl rfl fd_fn Tryz.func3 circles_closed fd_inst circles_wrap
    (fun os started H enc _ => circles_lifted os started H enc)
#print axioms circles_holds
end Go.Proofs.YthhfakkfdohcpaaGreat
