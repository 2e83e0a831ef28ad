/- The plain words of the ledger's claims: digests, claims as cells, slices that read as lists. No condition. -/
import Derived.Test.YthpbjceajnaokaaRows
import Derived.WalkKit
import Derived.WalkSpells
import Derived.WalkLawsBesides
import Derived.Lib.Hide
import Derived.Deep.QuietTactic
import Derived.BigQuiet
import Derived.Deep.AppendLies
import Derived.Maps.AppendAt
import Derived.Deep.Draws
import Derived.Deep.RegionHeld3
namespace Go.Proofs.Ythpbjceajnaokaa
open Go.RowKit

/-- A step of a digest, as the program's text reckons it. -/
def stp (a b : Int) : Int :=
  bits BinOp.xor IntKind.u64
    (IntKind.u64.wrap
      (bits BinOp.xor IntKind.u64
          (IntKind.u64.wrap (bits BinOp.xor IntKind.u64 a b * 11400714819323198485))
          (IntKind.u64.wrap (bits BinOp.xor IntKind.u64 a b * 11400714819323198485) / 536870912) *
        13787848793156543929))
    (IntKind.u64.wrap
        (bits BinOp.xor IntKind.u64
            (IntKind.u64.wrap (bits BinOp.xor IntKind.u64 a b * 11400714819323198485))
            (IntKind.u64.wrap (bits BinOp.xor IntKind.u64 a b * 11400714819323198485) / 536870912) *
          13787848793156543929) /
      4294967296)

theorem u64_wrap_bd (x : Int) : 0 ≤ IntKind.u64.wrap x ∧ IntKind.u64.wrap x < 18446744073709551616 := by
  have h : IntKind.u64.wrap x = x % 18446744073709551616 := by
    simp [IntKind.wrap, IntKind.signed, IntKind.bits]
  rw [h]; omega

theorem stp_bd (a b : Int) : 0 ≤ stp a b ∧ stp a b < 18446744073709551616 := by
  unfold stp
  exact u64_wrap_bd _

def wordsFrom (h : Int) (l : List Int) : Int := l.foldl (fun h x => stp h (IntKind.u64.wrap x)) h
def words (l : List Int) : Int := wordsFrom (stp 2611923443488327891 (l.length : Int)) l
def joinD (a b : Int) : Int := stp (stp 11820040416388919760 a) b

theorem wordsFrom_snoc (h : Int) (l : List Int) (x : Int) : wordsFrom h (l ++ [x]) = stp (wordsFrom h l) (IntKind.u64.wrap x) := by
  simp [wordsFrom, List.foldl_append]
theorem wordsFrom_take (h : Int) (l : List Int) (k : Nat) (hk : k < l.length) : wordsFrom h (l.take (k + 1)) = stp (wordsFrom h (l.take k)) (IntKind.u64.wrap (l[k]?.getD 0)) := by
  rw [List.take_succ_eq_append_getElem hk, wordsFrom_snoc, List.getElem?_eq_getElem hk]; rfl

/-- A claim: nine numbers. -/
structure Cl where
  firm : Int
  seq : Int
  time : Int
  kind : Int
  a : Int
  ref : Int
  aux : Int
  prev : Int
  tag : Int
  deriving DecidableEq

/-- A claim's nine cells. -/
def Cl.cells (c : Cl) : List Value := [.int .i64 c.firm, .int .i64 c.seq, .int .i64 c.time, .int .i64 c.kind, .int .i64 c.a, .int .u64 c.ref, .int .u64 c.aux, .int .u64 c.prev, .int .u64 c.tag]
def digC (c : Cl) : Int := words [c.firm, c.seq, c.time, c.kind, c.a, wrap64 c.ref, wrap64 c.aux, wrap64 c.prev]
def tagC (key : Int) (c : Cl) : Int := joinD key (digC c)

theorem ret_u64 {a b : Int} (h : a = b) : Ending.returned (.int .u64 a) = .returned (.int .u64 b) := by rw [h]
theorem ret_bool {a b : Bool} (h : a = b) : Ending.returned (.bool a) = .returned (.bool b) := by rw [h]
theorem ret_i64 {a b : Int} (h : a = b) : Ending.returned (.int .i64 a) = .returned (.int .i64 b) := by rw [h]
theorem hide {p : Prop} (h : p) : Hid p := h
/-- What a call that only makes memory leaves as it was. -/
theorem bcell {W w1 : World} (hb : Below W.heap.size W w1) : (∀ b o, b < W.heap.size → w1.cell? ⟨b, o, none⟩ = W.cell? ⟨b, o, none⟩) ∧ (∀ b o, b < W.heap.size → w1.frozen? ⟨b, o, none⟩ = W.frozen? ⟨b, o, none⟩) :=
  ⟨fun b o h => hb.cell (p := ⟨b, o, none⟩) h, fun b o h => hb.frozen (p := ⟨b, o, none⟩) h⟩
theorem cell8 {w : World} {b : Nat} {a0 a1 a2 a3 a4 a5 a6 a7 : Int} (hc : w.heap[b]? = some (.cells #[.int .i64 a0, .int .i64 a1, .int .i64 a2, .int .i64 a3, .int .i64 a4, .int .i64 a5, .int .i64 a6, .int .i64 a7] 3)) :
    ∀ i, i < 8 → w.cell? ⟨b, 0 + i, none⟩ = some (.int .i64 ([a0, a1, a2, a3, a4, a5, a6, a7][i]?.getD 0)) := by
  intro i hi
  simp only [World.cell?, hc]
  rcases i with _ | _ | _ | _ | _ | _ | _ | _ | i <;> first | rfl | omega
theorem cell2 {w : World} {b : Nat} {a0 a1 : Int} (hc : w.heap[b]? = some (.cells #[.int .i64 a0, .int .i64 a1] 3)) :
    ∀ i, i < 2 → w.cell? ⟨b, 0 + i, none⟩ = some (.int .i64 ([a0, a1][i]?.getD 0)) := by
  intro i hi
  simp only [World.cell?, hc]
  rcases i with _ | _ | i <;> first | rfl | omega
end Go.Proofs.Ythpbjceajnaokaa
