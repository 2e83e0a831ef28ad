/- Whether a claim is well-formed: the contracts of ledger.formed and of the reference's formed. No condition. -/
import Derived.Test.YthpbjceajnaokaaDig
namespace Go.Proofs.Ythpbjceajnaokaa
open Go.RowKit

def outB (n lo hi : Int) : Bool := decide (n < lo ∨ hi < n)
/-- Whether a claim is well-formed. -/
def okF (c : Cl) : Bool := !(outB c.firm 0 7) && !(outB c.seq 1 1000) && !(outB c.time 0 1099511627776) && !(outB c.kind 1 4) && !(outB c.a 0 1073741824)

set_option maxHeartbeats 400000 in
theorem all1_any (n lo hi : Int) (w : World) :
    Calls Try.prog 66 #[.agg #[.int .i64 n, .int .i64 lo, .int .i64 hi]] w fun e w' => e = .returned (.bool (outB n lo hi)) ∧ Below w.heap.size w w' := by
  by_cases h1 : n < lo
  · go_enter Try.func66, Try.ntmps66
    go_wp2
    go_ret
    exact ⟨ret_bool (by simp [outB, h1]), (Below.refl _ _).alloc (Nat.le_refl _) _⟩
  · by_cases h2 : hi < n
    · go_enter Try.func66, Try.ntmps66
      go_wp2
      go_ret
      exact ⟨ret_bool (by simp [outB, h2]), (Below.refl _ _).alloc (Nat.le_refl _) _⟩
    · go_enter Try.func66, Try.ntmps66
      go_wp2
      go_ret
      exact ⟨ret_bool (by simp [outB]; omega), (Below.refl _ _).alloc (Nat.le_refl _) _⟩

def AnyPost (b : Bool) (B : Nat) (w : World) (e : Ending) (w' : World) : Prop := ∃ r : Int, e = .returned (.int .i64 r) ∧ decide (0 ≤ r) = b ∧ Below B w w'
def anyOut (L : List (Int × Int × Int)) : Bool := L.any fun x => outB x.1 x.2.1 x.2.2
theorem anyOut_take (L : List (Int × Int × Int)) (k : Nat) (x lo hi : Int) (h : L[k]? = some (x, lo, hi)) : anyOut (L.take (k + 1)) = (anyOut (L.take k) || outB x lo hi) := by
  have hk : k < L.length := (List.getElem?_eq_some_iff.1 h).1
  have hx : L[k] = (x, lo, hi) := (List.getElem?_eq_some_iff.1 h).2
  rw [List.take_succ_eq_append_getElem hk, anyOut, List.any_append, hx]
  simp [anyOut]
theorem anyOut_of (L : List (Int × Int × Int)) (k : Nat) (x lo hi : Int) (h : L[k]? = some (x, lo, hi)) (ho : outB x lo hi = true) : anyOut L = true := by
  rw [anyOut, List.any_eq_true]
  exact ⟨_, List.mem_of_getElem? h, ho⟩

set_option maxHeartbeats 400000 in
theorem index_lim (b n cap : Nat) (L : List (Int × Int × Int)) (w : World) (hn : L.length = n) (hn0 : n ≤ 1000) (hb : b < w.heap.size)
    (hc : ∀ i, i < n → ∃ x lo hi, L[i]? = some (x, lo, hi) ∧ w.cell? ⟨b, i * 3, none⟩ = some (.int .i64 x) ∧ w.cell? ⟨b, i * 3 + 1, none⟩ = some (.int .i64 lo) ∧ w.cell? ⟨b, i * 3 + 2, none⟩ = some (.int .i64 hi)) :
    Calls Try.prog 69 #[.slice (some ⟨b, 0, none⟩) n cap, .func (.func 66) #[] #[]] w (AnyPost (anyOut L) w.heap.size w) := by
  have Hn := Lib.hid hn; clear hn
  have Hc := hide hc; clear hc
  go_enter Try.func69, Try.ntmps69
  go_wp2
  go_loopw [8] (fun i wr => ∃ k : Nat, k ≤ n ∧ i = .int .i64 k ∧ anyOut (L.take k) = false ∧ Below w.heap.size w wr) (fun i _ => n - (intOf i).toNat)
  case atStart => exact ⟨0, by omega, rfl, rfl, Below.refl _ _⟩
  case round =>
    obtain ⟨k, hk, rfl, hno, hbl⟩ := hrel
    have Hno := hide hno; clear hno
    have Hbl := hide hbl; clear hbl
    by_cases hlt : k < n
    · obtain ⟨x, lo, hi, hx, g0, g1, g2⟩ := Hc.out k hlt
      have Hx := hide hx; clear hx
      rw [← Hbl.out.cell (p := ⟨b, _, none⟩) hb] at g0 g1 g2
      go_wp2_with fail
      refine (all1_any _ _ _ _).mono ?_
      rintro e w1 ⟨rfl, hb1⟩
      have Hb1 := hide (Hbl.out.trans (hb1.mono Hbl.out.size)); clear hb1
      cases ho : outB x lo hi
      · have Ho := hide ho; clear ho
        go_wp2
        go_roundw
        case rel => exact ⟨k + 1, by omega, by go_num, by rw [anyOut_take L k x lo hi Hx.out, Hno.out, Ho.out]; rfl, Hb1.out⟩
        case measure => simp [intOf]; omega
      · have Ho := hide ho; clear ho
        go_wp2
        go_ret
        exact ⟨k, rfl, by rw [anyOut_of L k x lo hi Hx.out Ho.out]; simp, Hb1.out⟩
    · go_wp2
      go_ret
      exact ⟨-1, rfl, by rw [← List.take_of_length_le (l := L) (i := k) (by rw [Hn.out]; omega), Hno.out]; rfl, Hbl.out⟩

set_option maxHeartbeats 400000 in
theorem contains_lim (b n cap : Nat) (L : List (Int × Int × Int)) (w : World) (hn : L.length = n) (hn0 : n ≤ 1000) (hb : b < w.heap.size)
    (hc : ∀ i, i < n → ∃ x lo hi, L[i]? = some (x, lo, hi) ∧ w.cell? ⟨b, i * 3, none⟩ = some (.int .i64 x) ∧ w.cell? ⟨b, i * 3 + 1, none⟩ = some (.int .i64 lo) ∧ w.cell? ⟨b, i * 3 + 2, none⟩ = some (.int .i64 hi)) :
    Calls Try.prog 65 #[.slice (some ⟨b, 0, none⟩) n cap, .func (.func 66) #[] #[]] w fun e w' => e = .returned (.bool (anyOut L)) ∧ Below w.heap.size w w' := by
  have H := hide (index_lim b n cap L w hn hn0 hb hc); clear hn hc
  go_enter Try.func65, Try.ntmps65
  go_wp2_with fail
  refine H.out.mono ?_
  rintro e w1 ⟨r, rfl, hr, hb1⟩
  have Hr := hide hr; clear hr
  have Hb1 := hide hb1; clear hb1
  go_wp2
  go_ret
  exact ⟨ret_bool Hr.out, Hb1.out⟩

set_option maxHeartbeats 400000 in
theorem all_lim (b n cap : Nat) (L : List (Int × Int × Int)) (w : World) (hn : L.length = n) (hn0 : n ≤ 1000) (hb : b < w.heap.size)
    (hc : ∀ i, i < n → ∃ x lo hi, L[i]? = some (x, lo, hi) ∧ w.cell? ⟨b, i * 3, none⟩ = some (.int .i64 x) ∧ w.cell? ⟨b, i * 3 + 1, none⟩ = some (.int .i64 lo) ∧ w.cell? ⟨b, i * 3 + 2, none⟩ = some (.int .i64 hi)) :
    Calls Try.prog 59 #[.slice (some ⟨b, 0, none⟩) n cap] w fun e w' => e = .returned (.bool (!(anyOut L))) ∧ Below w.heap.size w w' := by
  have H := hide (contains_lim b n cap L w hn hn0 hb hc); clear hn hc
  go_enter Try.func59, Try.ntmps59
  go_wp2_with fail
  refine H.out.mono ?_
  rintro e w1 ⟨rfl, hb1⟩
  have Hb1 := hide hb1; clear hb1
  go_wp2
  go_ret
  exact ⟨rfl, Hb1.out⟩

def limsOf (c : Cl) : List (Int × Int × Int) := [(c.firm, 0, 7), (c.seq, 1, 1000), (c.time, 0, 1099511627776), (c.kind, 1, 4), (c.a, 0, 1073741824)]
theorem limsOf_ok (c : Cl) : (!(anyOut (limsOf c))) = okF c := by
  simp [anyOut, limsOf, okF, Bool.and_assoc]
theorem cell_lims {w : World} {b : Nat} {c : Cl} (hc : w.heap[b]? = some (.cells #[.int .i64 c.firm, .int .i64 0, .int .i64 7, .int .i64 c.seq, .int .i64 1, .int .i64 1000, .int .i64 c.time, .int .i64 0, .int .i64 1099511627776, .int .i64 c.kind, .int .i64 1, .int .i64 4, .int .i64 c.a, .int .i64 0, .int .i64 1073741824] 98)) :
    ∀ i, i < 5 → ∃ x lo hi, (limsOf c)[i]? = some (x, lo, hi) ∧ w.cell? ⟨b, i * 3, none⟩ = some (.int .i64 x) ∧ w.cell? ⟨b, i * 3 + 1, none⟩ = some (.int .i64 lo) ∧ w.cell? ⟨b, i * 3 + 2, none⟩ = some (.int .i64 hi) := by
  intro i hi
  simp only [World.cell?, hc]
  rcases i with _ | _ | _ | _ | _ | i
  · exact ⟨c.firm, 0, 7, rfl, rfl, rfl, rfl⟩
  · exact ⟨c.seq, 1, 1000, rfl, rfl, rfl, rfl⟩
  · exact ⟨c.time, 0, 1099511627776, rfl, rfl, rfl, rfl⟩
  · exact ⟨c.kind, 1, 4, rfl, rfl, rfl, rfl⟩
  · exact ⟨c.a, 0, 1073741824, rfl, rfl, rfl, rfl⟩
  · omega

set_option maxHeartbeats 400000 in
theorem formed_any (c : Cl) (w : World) :
    Calls Try.prog 41 #[.agg #[.int .i64 c.firm, .int .i64 c.seq, .int .i64 c.time, .int .i64 c.kind, .int .i64 c.a, .int .u64 c.ref, .int .u64 c.aux, .int .u64 c.prev, .int .u64 c.tag]] w fun e w' => e = .returned (.bool (okF c)) ∧ Below w.heap.size w w' := by
  go_enter Try.func41, Try.ntmps41
  go_wp2_with fail
  refine (all_lim _ 5 5 (limsOf c) _ rfl (by omega) (by simp) (cell_lims (by rw [← World.size_alloc (w := w)]; exact heap_alloc_new _ _))).mono ?_
  rintro e w' ⟨rfl, hb⟩
  have Hb := hide hb; clear hb
  go_wp2
  go_ret
  exact ⟨ret_bool (limsOf_ok c), (((Below.refl _ _).alloc (Nat.le_refl _) _).alloc (by simp) _).trans (Hb.out.mono (by simp; omega))⟩
end Go.Proofs.Ythpbjceajnaokaa
