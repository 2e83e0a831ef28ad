/- The row's closed facts, one by one. No condition. -/
import Derived.Test.YthhfakkfdohcpaaGreatRows
import Derived.JoinedOf
import Derived.ProofKit
namespace Go.Proofs.YthhfakkfdohcpaaGreat
theorem fc_place : (Rows.wholeCirclesRow.inPlace == Tryz.prog.inPlace 3) = true := by kernel_rfl
theorem fc_unf : (Rows.wholeCirclesRow.unfollowed == Tryz.prog.unfollowed 3) = true := by kernel_rfl
theorem fc_rec : (Rows.wholeCirclesRow.recurses == Tryz.prog.recurses 3) = true := by kernel_rfl
theorem fc_named : (Rows.wholeCirclesRow.named == Tryz.prog.varsNamed 3) = true := by kernel_rfl
end Go.Proofs.YthhfakkfdohcpaaGreat
