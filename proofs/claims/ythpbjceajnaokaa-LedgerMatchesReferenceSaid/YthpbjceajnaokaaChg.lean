/- The statements' changed: a claim with one field changed. No condition. -/
import Derived.Test.YthpbjceajnaokaaApd
namespace Go.Proofs.Ythpbjceajnaokaa
open Go.RowKit

/-- A claim with one field changed. -/
def chgF (c : Cl) (r n : Int) : Cl :=
  if r = 0 then { c with firm := wrap64 (c.firm + n) } else if r = 1 then { c with seq := wrap64 (c.seq + n) } else if r = 2 then { c with time := wrap64 (c.time + n) }
  else if r = 3 then { c with kind := wrap64 (c.kind + n) } else if r = 4 then { c with a := wrap64 (c.a + n) } else if r = 5 then { c with ref := IntKind.u64.wrap (c.ref + IntKind.u64.wrap n) }
  else if r = 6 then { c with aux := IntKind.u64.wrap (c.aux + IntKind.u64.wrap n) } else if r = 7 then { c with prev := IntKind.u64.wrap (c.prev + IntKind.u64.wrap n) }
  else { c with tag := IntKind.u64.wrap (c.tag + IntKind.u64.wrap n) }

set_option maxRecDepth 100000 in
set_option maxHeartbeats 2000000 in
theorem changed_any (c : Cl) (k n : Int) (w : World) (hk : 0 ≤ k ∧ k < 256) :
    Calls Try.prog 11 #[.agg #[.int .i64 c.firm, .int .i64 c.seq, .int .i64 c.time, .int .i64 c.kind, .int .i64 c.a, .int .u64 c.ref, .int .u64 c.aux, .int .u64 c.prev, .int .u64 c.tag], .int .u8 k, .int .i64 n] w fun e w' => e = .returned (.agg #[.int .i64 (chgF c (k % 9) n).firm, .int .i64 (chgF c (k % 9) n).seq, .int .i64 (chgF c (k % 9) n).time, .int .i64 (chgF c (k % 9) n).kind, .int .i64 (chgF c (k % 9) n).a, .int .u64 (chgF c (k % 9) n).ref, .int .u64 (chgF c (k % 9) n).aux, .int .u64 (chgF c (k % 9) n).prev, .int .u64 (chgF c (k % 9) n).tag]) ∧ Below w.heap.size w w' := by
  go_enter Try.func11, Try.ntmps11
  go_wp2
  all_goals
    simp only [beq_iff_eq, beq_eq_false_iff_ne, ne_eq] at *
    obtain ⟨d, hd⟩ : ∃ d, d = chgF c (k % 9) n := ⟨_, rfl⟩
    rw [← hd]
    unfold chgF at hd
    simp only [*, if_true, if_false, Int.reduceEq] at hd
    subst hd
    exact bodyPost_ret (by simp [results, Try.results11, go_sem]) rfl ⟨rfl, (by repeat (first | exact Below.refl _ _ | refine Below.setCell ?_ (by simp) _ | refine below_drewN ?_ _ | refine Below.drew ?_ | refine Below.alloc ?_ (by simp) _ | refine Below.setCell ?_ (by simp; omega) _ | refine Below.alloc ?_ (by simp; omega) _))⟩
end Go.Proofs.Ythpbjceajnaokaa
