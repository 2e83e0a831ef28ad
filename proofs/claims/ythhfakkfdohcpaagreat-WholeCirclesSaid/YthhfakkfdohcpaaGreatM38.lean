/- The row's closed facts, one by one. No condition. -/
import Derived.Test.YthhfakkfdohcpaaGreatRows
import Derived.JoinedOf
import Derived.ProofKit
namespace Go.Proofs.YthhfakkfdohcpaaGreat
theorem fd_wf : Rows.wholeCirclesRow.wf (OpenSpec.ofChange Rows.wholeCirclesSpec) = true := by kernel_rfl
theorem fd_laid : laidOutB Tryz.prog = true := by kernel_rfl
theorem fd_maps : mapsRowed Tryz.prog = true := by kernel_rfl
theorem fd_heard : Tryz.prog.stopsHeard = true := by kernel_rfl
theorem fd_may : Tryz.prog.mayEnter = true := by kernel_rfl
theorem fd_lift : (Rows.wholeCirclesRow.lifted == Tryz.prog.liftsFinal) = true := by kernel_rfl
theorem fd_make : (Tryz.prog.make == some Rows.wholeCirclesRow.make) = true := by kernel_rfl
theorem fd_plain : (Rows.wholeCirclesRow.plainKeys == Tryz.prog.plainKeys) = true := by kernel_rfl
theorem fd_fn : Tryz.prog.funcNamed Rows.wholeCirclesRow.func = some 3 := by kernel_rfl
theorem fd_inst : Tryz.f3.isInstance Tryz.prog Rows.wholeCirclesRow.origin Rows.wholeCirclesRow.targs := of_decide_eq_true (by kernel_rfl)
end Go.Proofs.YthhfakkfdohcpaaGreat
