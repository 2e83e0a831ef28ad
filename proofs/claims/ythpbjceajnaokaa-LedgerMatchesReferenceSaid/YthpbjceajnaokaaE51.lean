/- Equality of a claim with a truth value (type 51). No condition. -/
import Derived.Test.YthpbjceajnaokaaChn
namespace Go.Proofs.Ythpbjceajnaokaa
open Go.RowKit

theorem eql_lin (c : Cl) (f : Bool) (W : World) : (binOp .eql 51 (.agg #[.int .i64 c.firm, .int .i64 c.seq, .int .i64 c.time, .int .i64 c.kind, .int .i64 c.a, .int .u64 c.ref, .int .u64 c.aux, .int .u64 c.prev, .int .u64 c.tag, .bool f]) (.agg #[.int .i64 c.firm, .int .i64 c.seq, .int .i64 c.time, .int .i64 c.kind, .int .i64 c.a, .int .u64 c.ref, .int .u64 c.aux, .int .u64 c.prev, .int .u64 c.tag, .bool f])).run Try.prog W = .ok (.bool true) W := by
  have u3 := Try.underlying3
  have u4 := Try.underlying4
  have u27 := Try.underlying27
  have hS : Try.prog.underlying 51 = some (.struct (Try.prog.fieldsOf 51)) := by kernel_rfl
  have hp : Try.prog.stoodInHeld 51 = false := by kernel_rfl
  rw [run_eql_struct, show (10000 : Nat) = 9999 + 1 from rfl, run_equalIn_agg W 9999 51 _ _ hS hp]
  simp only [Program.fieldsOf, Try.underlying51]
  go_simp
  done
end Go.Proofs.Ythpbjceajnaokaa
