/- The order of two claims: cmp.Compare, first and the comparison that Order hands to the sort. No condition. -/
import Derived.Test.YthpbjceajnaokaaApd
namespace Go.Proofs.Ythpbjceajnaokaa
open Go.RowKit

def cmpI (a b : Int) : Int := if a < b then -1 else if b < a then 1 else 0
def firstI : List Int → Int
  | [] => 0
  | x :: xs => if x = 0 then firstI xs else x
def ordI (c d : Cl) : Int := firstI [cmpI c.time d.time, cmpI c.firm d.firm, cmpI c.seq d.seq]
/-- Whether a claim stands ahead of another one. -/
def ltC (c d : Cl) : Bool := decide (c.time < d.time) || (decide (c.time = d.time) && (decide (c.firm < d.firm) || (decide (c.firm = d.firm) && decide (c.seq < d.seq))))
theorem ordI_lt (c d : Cl) : decide (ordI c d < 0) = ltC c d := by
  unfold ordI ltC firstI cmpI
  simp only [firstI]
  by_cases h1 : c.time < d.time
  · simp [h1]
  · by_cases h2 : d.time < c.time
    · have h3 : ¬ c.time = d.time := by omega
      simp [h1, h2, h3]
    · have h3 : c.time = d.time := by omega
      simp only [h3, if_false, decide_true, decide_false, Bool.true_and, Bool.false_or, Int.lt_irrefl]
      by_cases h4 : c.firm < d.firm
      · simp [h4]
      · by_cases h5 : d.firm < c.firm
        · have h6 : ¬ c.firm = d.firm := by omega
          simp [h4, h5, h6]
        · have h6 : c.firm = d.firm := by omega
          simp only [h6, if_false, decide_true, decide_false, Bool.true_and, Bool.false_or, Int.lt_irrefl]
          by_cases h7 : c.seq < d.seq
          · simp [h7]
          · by_cases h8 : d.seq < c.seq
            · simp [h7, h8]
            · simp [h7, h8]

set_option maxHeartbeats 400000 in
theorem isnan_any (a : Int) (w : World) : Calls Try.prog 63 #[.int .i64 a] w fun e w' => e = .returned (.bool false) ∧ w = w' := by
  go_enter Try.func63, Try.ntmps63
  go_wp2
  go_ret
  exact ⟨rfl, rfl⟩

set_option maxHeartbeats 400000 in
theorem compare_any (a b : Int) (w : World) : Calls Try.prog 51 #[.int .i64 a, .int .i64 b] w fun e w' => e = .returned (.int .i64 (cmpI a b)) ∧ w = w' := by
  by_cases h1 : a < b
  · go_enter Try.func51, Try.ntmps51
    go_wp2_with (go_at_call 63; refine (isnan_any _ _).mono ?_; rintro e w' ⟨rfl, rfl⟩)
    go_ret
    exact ⟨ret_i64 (by rw [cmpI, if_pos h1]), rfl⟩
  · by_cases h2 : b < a
    · go_enter Try.func51, Try.ntmps51
      go_wp2_with (go_at_call 63; refine (isnan_any _ _).mono ?_; rintro e w' ⟨rfl, rfl⟩)
      go_ret
      exact ⟨ret_i64 (by rw [cmpI, if_neg (by omega), if_pos h2]), rfl⟩
    · go_enter Try.func51, Try.ntmps51
      go_wp2_with (go_at_call 63; refine (isnan_any _ _).mono ?_; rintro e w' ⟨rfl, rfl⟩)
      go_ret
      exact ⟨ret_i64 (by rw [cmpI, if_neg (by omega), if_neg (by omega)]), rfl⟩

theorem firstI_skip (l : List Int) (k : Nat) (h : l[k]?.getD 0 = 0) (hf : firstI l = firstI (l.drop k)) : firstI l = firstI (l.drop (k + 1)) := by
  rw [hf]
  by_cases hk : k < l.length
  · rw [List.drop_eq_getElem_cons hk]
    rw [List.getElem?_eq_getElem hk] at h
    have h' : l[k] = 0 := h
    simp [firstI, h']
  · rw [List.drop_eq_nil_of_le (by omega), List.drop_eq_nil_of_le (by omega)]
theorem firstI_hit (l : List Int) (k : Nat) (h : l[k]?.getD 0 ≠ 0) (hf : firstI l = firstI (l.drop k)) : firstI l = l[k]?.getD 0 := by
  rw [hf]
  by_cases hk : k < l.length
  · rw [List.drop_eq_getElem_cons hk]
    rw [List.getElem?_eq_getElem hk] at h ⊢
    have h' : ¬ l[k] = 0 := h
    simp [firstI, h']
  · rw [List.getElem?_eq_none (by omega)] at h
    exact absurd rfl h

set_option maxHeartbeats 400000 in
theorem first_any (b n cap : Nat) (xs : List Int) (w : World) (hn : xs.length = n) (hn0 : n ≤ 1000)
    (hc : ∀ i, i < n → w.cell? ⟨b, i, none⟩ = some (.int .i64 (xs[i]?.getD 0))) :
    Calls Try.prog 50 #[.slice (some ⟨b, 0, none⟩) n cap] w fun e w' => e = .returned (.int .i64 (firstI xs)) ∧ w = w' := by
  have Hn := Lib.hid hn; clear hn
  go_enter Try.func50, Try.ntmps50
  go_wp2
  go_loop [7] (fun i => ∃ k : Nat, k ≤ n ∧ i = .int .i64 k ∧ firstI xs = firstI (xs.drop k)) (fun i => n - (intOf i).toNat)
  case atStart => exact ⟨0, by omega, rfl, rfl⟩
  case round =>
    obtain ⟨k, hk, rfl, hf⟩ := hrel
    have Hf := hide hf; clear hf
    by_cases hlt : k < n
    · have g := hc k hlt
      by_cases h0 : xs[k]?.getD 0 = 0
      · have H0 := hide h0
        have hb : (xs[k]?.getD 0 != 0) = false := by simpa using h0
        clear h0
        go_wp2
        go_round
        case rel => exact ⟨k + 1, by omega, by go_num, firstI_skip xs k H0.out Hf.out⟩
        case measure => simp [intOf]; omega
      · have H0 := hide h0
        have hb : (xs[k]?.getD 0 != 0) = true := by simpa using h0
        clear h0
        go_wp2
        go_ret
        exact ⟨ret_i64 (firstI_hit xs k H0.out Hf.out).symm, rfl⟩
    · go_wp2
      go_ret
      exact ⟨ret_i64 (by rw [Hf.out, List.drop_eq_nil_of_le (by rw [Hn.out]; omega)]; rfl), rfl⟩

theorem cell3 {w : World} {b : Nat} {a0 a1 a2 : Int} (hc : w.heap[b]? = some (.cells #[.int .i64 a0, .int .i64 a1, .int .i64 a2] 3)) :
    ∀ i, i < 3 → w.cell? ⟨b, i, none⟩ = some (.int .i64 ([a0, a1, a2][i]?.getD 0)) := by
  intro i hi
  simp only [World.cell?, hc]
  rcases i with _ | _ | _ | i <;> first | rfl | omega

theorem keepO {w2 w' : World} {B : Nat} {c d : Cl} (hb : Below w2.heap.size w2 w') (hz : w2.heap.size = B + 2)
    (c0 : w2.cell? ⟨B, 0, none⟩ = some (.int .i64 c.firm)) (c1 : w2.cell? ⟨B, 1, none⟩ = some (.int .i64 c.seq)) (c2 : w2.cell? ⟨B, 2, none⟩ = some (.int .i64 c.time))
    (d0 : w2.cell? ⟨B + 1, 0, none⟩ = some (.int .i64 d.firm)) (d1 : w2.cell? ⟨B + 1, 1, none⟩ = some (.int .i64 d.seq)) (d2 : w2.cell? ⟨B + 1, 2, none⟩ = some (.int .i64 d.time)) :
    w'.cell? ⟨B, 0, none⟩ = some (.int .i64 c.firm) ∧ w'.cell? ⟨B, 1, none⟩ = some (.int .i64 c.seq) ∧ w'.cell? ⟨B, 2, none⟩ = some (.int .i64 c.time) ∧ w'.cell? ⟨B + 1, 0, none⟩ = some (.int .i64 d.firm) ∧ w'.cell? ⟨B + 1, 1, none⟩ = some (.int .i64 d.seq) ∧ w'.cell? ⟨B + 1, 2, none⟩ = some (.int .i64 d.time) ∧ Below w2.heap.size w2 w' :=
  ⟨(hb.cell (p := ⟨B, 0, none⟩) (by show B < _; omega)).trans c0, (hb.cell (p := ⟨B, 1, none⟩) (by show B < _; omega)).trans c1, (hb.cell (p := ⟨B, 2, none⟩) (by show B < _; omega)).trans c2,
    (hb.cell (p := ⟨B + 1, 0, none⟩) (by show B + 1 < _; omega)).trans d0, (hb.cell (p := ⟨B + 1, 1, none⟩) (by show B + 1 < _; omega)).trans d1, (hb.cell (p := ⟨B + 1, 2, none⟩) (by show B + 1 < _; omega)).trans d2, hb⟩

set_option maxHeartbeats 800000 in
theorem order1_any (c d : Cl) (w : World) :
    Calls Try.prog 49 #[.agg #[.int .i64 c.firm, .int .i64 c.seq, .int .i64 c.time, .int .i64 c.kind, .int .i64 c.a, .int .u64 c.ref, .int .u64 c.aux, .int .u64 c.prev, .int .u64 c.tag], .agg #[.int .i64 d.firm, .int .i64 d.seq, .int .i64 d.time, .int .i64 d.kind, .int .i64 d.a, .int .u64 d.ref, .int .u64 d.aux, .int .u64 d.prev, .int .u64 d.tag]] w fun e w' => e = .returned (.int .i64 (ordI c d)) ∧ Below w.heap.size w w' := by
  go_enter Try.func49, Try.ntmps49
  go_upto_region 1 with (fail)
  have q1 := ((IsCl.block (w := w.alloc (.cells (#[.int .i64 c.firm, .int .i64 c.seq, .int .i64 c.time, .int .i64 c.kind, .int .i64 c.a, .int .u64 c.ref, .int .u64 c.aux, .int .u64 c.prev, .int .u64 c.tag]) 29)) (heap_alloc_new w _)).keep (w' := (w.alloc (.cells (#[.int .i64 c.firm, .int .i64 c.seq, .int .i64 c.time, .int .i64 c.kind, .int .i64 c.a, .int .u64 c.ref, .int .u64 c.aux, .int .u64 c.prev, .int .u64 c.tag]) 29)).alloc (.cells (#[.int .i64 d.firm, .int .i64 d.seq, .int .i64 d.time, .int .i64 d.kind, .int .i64 d.a, .int .u64 d.ref, .int .u64 d.aux, .int .u64 d.prev, .int .u64 d.tag]) 29)) (fun o => World.cell?_alloc_lt _ _ _ (by simp))).at0
  have q2 := (IsCl.block (w := (w.alloc (.cells (#[.int .i64 c.firm, .int .i64 c.seq, .int .i64 c.time, .int .i64 c.kind, .int .i64 c.a, .int .u64 c.ref, .int .u64 c.aux, .int .u64 c.prev, .int .u64 c.tag]) 29)).alloc (.cells (#[.int .i64 d.firm, .int .i64 d.seq, .int .i64 d.time, .int .i64 d.kind, .int .i64 d.a, .int .u64 d.ref, .int .u64 d.aux, .int .u64 d.prev, .int .u64 d.tag]) 29)) (b := w.heap.size + 1) (by rw [← World.size_alloc (w := w)]; exact heap_alloc_new _ _)).at0
  have hb2 : Below w.heap.size w ((w.alloc (.cells (#[.int .i64 c.firm, .int .i64 c.seq, .int .i64 c.time, .int .i64 c.kind, .int .i64 c.a, .int .u64 c.ref, .int .u64 c.aux, .int .u64 c.prev, .int .u64 c.tag]) 29)).alloc (.cells (#[.int .i64 d.firm, .int .i64 d.seq, .int .i64 d.time, .int .i64 d.kind, .int .i64 d.a, .int .u64 d.ref, .int .u64 d.aux, .int .u64 d.prev, .int .u64 d.tag]) 29)) := ((Below.refl _ _).alloc (Nat.le_refl _) _).alloc (by simp) _
  have hz2 : ((w.alloc (.cells (#[.int .i64 c.firm, .int .i64 c.seq, .int .i64 c.time, .int .i64 c.kind, .int .i64 c.a, .int .u64 c.ref, .int .u64 c.aux, .int .u64 c.prev, .int .u64 c.tag]) 29)).alloc (.cells (#[.int .i64 d.firm, .int .i64 d.seq, .int .i64 d.time, .int .i64 d.kind, .int .i64 d.a, .int .u64 d.ref, .int .u64 d.aux, .int .u64 d.prev, .int .u64 d.tag]) 29)).heap.size = w.heap.size + 2 := by simp
  generalize ((w.alloc (.cells (#[.int .i64 c.firm, .int .i64 c.seq, .int .i64 c.time, .int .i64 c.kind, .int .i64 c.a, .int .u64 c.ref, .int .u64 c.aux, .int .u64 c.prev, .int .u64 c.tag]) 29)).alloc (.cells (#[.int .i64 d.firm, .int .i64 d.seq, .int .i64 d.time, .int .i64 d.kind, .int .i64 d.a, .int .u64 d.ref, .int .u64 d.aux, .int .u64 d.prev, .int .u64 d.tag]) 29)) = w2 at *
  have Hb2 := hide hb2; clear hb2
  have Hz2 := hide hz2; clear hz2
  obtain ⟨c0, c1, c2, _⟩ := q1
  obtain ⟨d0, d1, d2, _⟩ := q2
  go_region_held3 (fun w' => w'.cell? ⟨w.heap.size, 0, none⟩ = some (.int .i64 c.firm) ∧ w'.cell? ⟨w.heap.size, 1, none⟩ = some (.int .i64 c.seq) ∧ w'.cell? ⟨w.heap.size, 2, none⟩ = some (.int .i64 c.time) ∧ w'.cell? ⟨w.heap.size + 1, 0, none⟩ = some (.int .i64 d.firm) ∧ w'.cell? ⟨w.heap.size + 1, 1, none⟩ = some (.int .i64 d.seq) ∧ w'.cell? ⟨w.heap.size + 1, 2, none⟩ = some (.int .i64 d.time) ∧ Below w2.heap.size w2 w')
    ((go_split_ands; refine keepO ?_ Hz2.out c0 c1 c2 d0 d1 d2; first | exact (Below.refl _ _).drew | assumption | exact (((Below.refl _ _).drew).alloc (Nat.le_refl _) _)))
    (first
      | (go_at_call 51; refine (compare_any _ _ _).mono ?_; rintro e w3 ⟨rfl, rfl⟩)
      | (go_at_call 50; refine (first_any _ 3 3 [cmpI c.time d.time, cmpI c.firm d.firm, cmpI c.seq d.seq] _ rfl (by omega) (cell3 (by exact heap_alloc_new w2 _))).mono ?_; rintro e w3 ⟨rfl, rfl⟩)
      | fail)
  go_wp2
  go_ret
  exact ⟨rfl, Hb2.out.trans ((((Below.refl _ w2).drew).alloc (Nat.le_refl _) _).mono (by have := Hz2.out; simp; omega))⟩
end Go.Proofs.Ythpbjceajnaokaa
