/- Order on few claims: the library's stable sort at fewer than twenty, Grow of nil, Concat. Condition: fewer than twenty claims in all. -/
import Derived.Test.YthpbjceajnaokaaIns
import Derived.Lib.AppendZeros
namespace Go.Proofs.Ythpbjceajnaokaa
open Go.RowKit

set_option maxHeartbeats 800000 in
theorem stable_none (A : Option Addr) (cap : Nat) (w : World) :
    Calls Try.prog 62 #[.slice A 0 cap, .int .i64 0, .func (.func 49) #[] #[]] w fun e w' => e = .returned (.tuple #[]) ∧ w = w' := by
  go_enter Try.func62, Try.ntmps62
  go_wp2
  go_loop [7, 8] (fun a i => a = .int .i64 0 ∧ i = .int .i64 20) (fun _ _ => 0)
  case atStart => exact ⟨rfl, rfl⟩
  case round =>
    obtain ⟨rfl, rfl⟩ := hrel
    go_wp2_with (go_at_call 67; refine (insertion_none A 0 cap _).mono ?_; rintro e w' ⟨rfl, rfl⟩)
    go_loop [6] (fun i => i = .int .i64 20) (fun _ => 0)
    case atStart => rfl
    case round =>
      subst hrel
      go_wp2
      go_end0
      exact ⟨rfl, rfl⟩

set_option maxHeartbeats 800000 in
theorem stable_small (g n cap : Nat) (xs : List Cl) (w : World) (hr : Row w g cap xs) (hn : xs.length = n) (hn0 : n < 20) :
    Calls Try.prog 62 #[.slice (some ⟨g, 0, none⟩) n cap, .int .i64 n, .func (.func 49) #[] #[]] w (NoRes w g cap (insF xs)) := by
  have h1 := insertion_any g n cap [] xs [] w (by simpa using hr) (by simpa using hn) (by omega) 0 n rfl (by simpa using hn)
  simp only [List.nil_append, List.append_nil, Int.natCast_zero] at h1
  have H1 := hide h1; clear h1 hr hn
  go_enter Try.func62, Try.ntmps62
  go_wp2
  go_loop [7, 8] (fun a i => a = .int .i64 0 ∧ i = .int .i64 20) (fun _ _ => 0)
  case atStart => exact ⟨rfl, rfl⟩
  case round =>
    obtain ⟨rfl, rfl⟩ := hrel
    go_wp2_with fail
    refine H1.out.mono ?_
    rintro e w1 ⟨rfl, hr1, hg1⟩
    have Hr1 := hide hr1; clear hr1
    have Hg1 := hide hg1; clear hg1
    go_wp2
    go_loop [6] (fun i => i = .int .i64 20) (fun _ => 0)
    case atStart => rfl
    case round =>
      subst hrel
      go_wp2
      go_end0
      exact ⟨rfl, Hr1.out, Hg1.out⟩

theorem sort_none (A : Option Addr) (cap : Nat) (w : World) :
    Calls Try.prog 48 #[.slice A 0 cap, .func (.func 49) #[] #[]] w fun e w' => e = .returned (.tuple #[]) ∧ w = w' := by
  go_enter Try.func48, Try.ntmps48
  go_wp2_with fail
  refine (stable_none A cap _).mono ?_
  rintro e w' ⟨rfl, rfl⟩
  go_wp2
  go_end0
  exact ⟨rfl, rfl⟩
theorem sort_small (g n cap : Nat) (xs : List Cl) (w : World) (hr : Row w g cap xs) (hn : xs.length = n) (hn0 : n < 20) :
    Calls Try.prog 48 #[.slice (some ⟨g, 0, none⟩) n cap, .func (.func 49) #[] #[]] w (NoRes w g cap (insF xs)) := by
  have H1 := hide (stable_small g n cap xs w hr hn hn0); clear hr hn
  go_enter Try.func48, Try.ntmps48
  go_wp2_with fail
  refine H1.out.mono ?_
  rintro e w1 ⟨rfl, hr1, hg1⟩
  have Hr1 := hide hr1; clear hr1
  have Hg1 := hide hg1; clear hg1
  go_wp2
  go_end0
  exact ⟨rfl, Hr1.out, Hg1.out⟩

set_option maxHeartbeats 800000 in
theorem grow_zero (w : World) : Calls Try.prog 61 #[.slice none 0 0, .int .i64 0] w (OwnPost w.heap.size w 0 []) := by
  go_enter Try.func61, Try.ntmps61
  go_wp2
  go_ret
  exact ⟨none, 0, rfl, OwC.nil _ _, Below.refl _ _⟩
set_option maxRecDepth 100000 in
set_option maxHeartbeats 800000 in
theorem grow_pos (k : Nat) (h0 : 0 < k) (hk : k ≤ 100000) (w : World) : Calls Try.prog 61 #[.slice none 0 0, .int .i64 k] w (OwnPost w.heap.size w 0 []) := by
  obtain ⟨i, hi, hz0, hz1, hz2⟩ := info_parts Cl.info
  have hrun := Lib.run_append_nil_zeros (P := Try.prog) w 33 3 33 29 i _ .i64 .i64 Try.underlying33 Try.underlying3 hi hz0 k h0 (by rw [hz1]; omega) (by omega) (by rw [hz2]; omega)
  have hge := grownCap_ge w k 0 29
  have hC0 : (k : Int) ≤ (grownCap w k 0 29 : Nat) := by omega
  have hle := grownCap_le_maxLen w k 0 29 (by simp only [maxLen]; omega)
  generalize grownCap w k 0 29 = C at *
  have hsz : (Builtin.zeroCells (Value.agg #[.int .i64 0, .int .i64 0, .int .i64 0, .int .i64 0, .int .i64 0, .int .u64 0, .int .u64 0, .int .u64 0, .int .u64 0]).cells k ++ Builtin.zeroCells (Value.agg #[.int .i64 0, .int .i64 0, .int .i64 0, .int .i64 0, .int .i64 0, .int .u64 0, .int .u64 0, .int .u64 0, .int .u64 0]).cells (C - k)).size = C * 9 := by
    rw [Array.size_append, size_zeroCells, size_zeroCells]
    simp only [Value.cells, List.size_toArray, List.length_cons, List.length_nil]
    omega
  generalize (Builtin.zeroCells (Value.agg #[.int .i64 0, .int .i64 0, .int .i64 0, .int .i64 0, .int .i64 0, .int .u64 0, .int .u64 0, .int .u64 0, .int .u64 0]).cells k ++ Builtin.zeroCells (Value.agg #[.int .i64 0, .int .i64 0, .int .i64 0, .int .i64 0, .int .i64 0, .int .u64 0, .int .u64 0, .int .u64 0, .int .u64 0]).cells (C - k)) = cur at *
  have hown : OwC (w.drew.alloc (.cells cur 29)) w.heap.size (.slice (some ⟨w.heap.size, 0, none⟩) 0 C) 0 [] := World.ownsRow_made w.drew cur C (Nat.le_refl _) hle hsz
  have hbel : Below w.heap.size w (w.drew.alloc (.cells cur 29)) := ((Below.refl _ w).drew).alloc (Nat.le_refl _) _
  generalize hw2 : w.drew.alloc (.cells cur 29) = w2 at *
  have Hown := hide hown; clear hown
  have Hbel := hide hbel; clear hbel
  have Hrun := hide hrun; clear hrun
  clear hw2 hsz hle hge hi hz0 hz1 hz2 i
  go_enter Try.func61, Try.ntmps61
  go_wp2_with (at_builtin; refine Lib.wpList_append_run _ rfl (.tmp 20) (.tmp 21) 33 3 rfl _ _ rfl rfl _ _ Hrun.out ?_)
  go_ret
  exact ⟨_, C, rfl, Hown.out, Hbel.out⟩

/-- A slice of slices of claims, at an address below block B. -/
def SlS (w : World) (B : Nat) (A : Option Addr) (n : Nat) (xss : List (List Cl)) : Prop :=
  xss.length = n ∧ (0 < n → ∃ b off, A = some ⟨b, off, none⟩ ∧ b < B ∧ ∀ k xs, xss[k]? = some xs → ∃ A' c', w.cell? ⟨b, off + k, none⟩ = some (.slice A' xs.length c') ∧ SlC w B A' xs.length xs)
theorem SlS.at_ {w : World} {B n k : Nat} {A : Option Addr} {xss : List (List Cl)} (h : SlS w B A n xss) (hk : k < n) : ∃ b off xs A' c', A = some ⟨b, off, none⟩ ∧ b < B ∧ xss[k]? = some xs ∧ w.cell? ⟨b, off + k, none⟩ = some (.slice A' xs.length c') ∧ SlC w B A' xs.length xs := by
  obtain ⟨b, off, e, hb, hc⟩ := h.2 (by omega)
  have hl : k < xss.length := by have := h.1; omega
  obtain ⟨A', c', h1, h2⟩ := hc k _ (List.getElem?_eq_getElem hl)
  exact ⟨b, off, xss[k], A', c', e, hb, List.getElem?_eq_getElem hl, h1, h2⟩
theorem SlS.below {w w' : World} {B n : Nat} {A : Option Addr} {xss : List (List Cl)} (h : SlS w B A n xss) (hb : Below B w w') : SlS w' B A n xss :=
  ⟨h.1, fun hn => by
    obtain ⟨b, off, e, hB, hc⟩ := h.2 hn
    refine ⟨b, off, e, hB, fun k xs hk => ?_⟩
    obtain ⟨A', c', h1, h2⟩ := hc k xs hk
    exact ⟨A', c', (hb.cell (p := ⟨b, off + k, none⟩) hB).trans h1, h2.below hb⟩⟩
theorem SlS.more {w : World} {B B' n : Nat} {A : Option Addr} {xss : List (List Cl)} (h : SlS w B A n xss) (hB : B ≤ B') : SlS w B' A n xss :=
  ⟨h.1, fun hn => by
    obtain ⟨b, off, e, hb, hc⟩ := h.2 hn
    refine ⟨b, off, e, by omega, fun k xs hk => ?_⟩
    obtain ⟨A', c', h1, h2⟩ := hc k xs hk
    exact ⟨A', c', h1, h2.more hB⟩⟩
theorem flat_take (xss : List (List Cl)) (k : Nat) (xs : List Cl) (h : xss[k]? = some xs) : (xss.take (k + 1)).flatten = (xss.take k).flatten ++ xs := by
  have hk := (List.getElem?_eq_some_iff.1 h).1
  rw [List.take_succ_eq_append_getElem hk, (List.getElem?_eq_some_iff.1 h).2]
  simp
theorem flat_take_le (xss : List (List Cl)) (k : Nat) : (xss.take k).flatten.length ≤ xss.flatten.length := by
  conv => rhs; rw [← List.take_append_drop k xss]
  rw [List.flatten_append, List.length_append]; omega

set_option maxRecDepth 100000 in
set_option maxHeartbeats 1000000 in
theorem concat_any (A : Option Addr) (n cap : Nat) (xss : List (List Cl)) (w : World) (ha : SlS w w.heap.size A n xss) (hn : n ≤ 1000) (tot : Nat) (ht : xss.flatten.length = tot) (htot : tot ≤ 100000) :
    Calls Try.prog 47 #[.slice A n cap] w (OwnPost w.heap.size w tot xss.flatten) := by
  have Ha := hide ha; clear ha
  have Ht := hide ht; clear ht
  go_enter Try.func47, Try.ntmps47
  go_wp2
  go_loop [3, 11] (fun s i => ∃ k : Nat, k ≤ n ∧ i = .int .i64 k ∧ s = .int .i64 ((xss.take k).flatten.length : Nat)) (fun _ i => n - (intOf i).toNat)
  case atStart => exact ⟨0, by omega, rfl, rfl⟩
  case round =>
    obtain ⟨k, hk, rfl, rfl⟩ := hrel
    by_cases hlt : k < n
    · obtain ⟨b, off, xs, A', c', rfl, hb, hx, hc, hs⟩ := Ha.out.at_ hlt
      have h1 := flat_take xss k xs hx
      have h2 := flat_take_le xss (k + 1)
      rw [h1, List.length_append, Ht.out] at h2
      have h3 : (xss.take (k + 1)).flatten.length = (xss.take k).flatten.length + xs.length := by rw [h1, List.length_append]
      have H3 := hide h3
      clear h1 h3 hs hx hb
      generalize (xss.take k).flatten.length = S at *
      have hS : (S : Int) + (xs.length : Int) ≤ 100000 := by omega
      go_wp2
      go_round
      case rel => exact ⟨k + 1, by omega, by go_num, by rw [H3.out]; go_num⟩
      case measure => simp [intOf]; omega
    · have hkn : k = n := by omega
      subst hkn
      have hfull : xss.take k = xss := List.take_of_length_le (by rw [Ha.out.1]; omega)
      rw [hfull, Ht.out]
      clear hfull
      have hgrow : Calls Try.prog 61 #[.slice none 0 0, .int .i64 tot] w (OwnPost w.heap.size w 0 []) := by
        rcases Nat.eq_zero_or_pos tot with h | h
        · subst h; exact grow_zero w
        · exact grow_pos tot h htot w
      have Hgrow := hide hgrow; clear hgrow
      go_wp2_with fail
      refine Hgrow.out.mono ?_
      rintro e w1 ⟨A1, c1, rfl, ho1, hb1⟩
      have Ho1 := hide ho1; clear ho1
      have Hb1 := hide hb1; clear hb1
      clear Hgrow
      go_wp2
      go_loopw [6, 27] (fun v i wr => ∃ (j S : Nat) (A' : Option Addr) (c' : Nat), j ≤ k ∧ i = .int .i64 j ∧ v = .slice A' S c' ∧ OwC wr w.heap.size (.slice A' S c') S (xss.take j).flatten ∧ Below w.heap.size w wr) (fun _ i _ => k - (intOf i).toNat)
      case atStart => exact ⟨0, 0, A1, c1, by omega, rfl, rfl, Ho1.out, Hb1.out⟩
      case round =>
        obtain ⟨j, S, A2, c2, hj, rfl, rfl, ho2, hb2⟩ := hrel
        have Ho2 := hide ho2; clear ho2
        have Hb2 := hide hb2; clear hb2
        by_cases hlt2 : j < k
        · obtain ⟨b, off, xs, A', c', rfl, hb, hx, hc, hs⟩ := Ha.out.at_ hlt2
          have h2 := flat_take_le xss (j + 1)
          rw [flat_take xss j xs hx, List.length_append, Ht.out, Ho2.out.len] at h2
          rw [← Hb2.out.cell (p := ⟨b, off + j, none⟩) hb] at hc
          have Hs := hide (hs.below Hb2.out); clear hs hb
          have Hx := hide hx; clear hx
          go_wp2_with (at_builtin; refine wpList_app rfl (.tmp 31) (.tmp 32) rfl (.slice A2 S c2) rfl A' xs.length c' rfl w.heap.size S w.heap.size (xss.take j).flatten xs Ho2.out Hs.out (by omega) Hb2.out.size ?_; intro A3 c3 w3 ho3 hg3 hat3; have Ho3 := hide ho3; clear ho3; have Hg3 := hide hg3; clear hg3 hat3)
          go_roundw
          case rel => exact ⟨j + 1, S + xs.length, A3, c3, by omega, by go_num, rfl, by rw [flat_take xss j xs Hx.out]; exact Ho3.out, Hb2.out.grown Hg3.out Hb2.out.size Ho2.out.row⟩
          case measure => simp [intOf]; omega
        · have hjk : j = k := by omega
          subst hjk
          have hfull : xss.take j = xss := List.take_of_length_le (by rw [Ha.out.1]; omega)
          rw [hfull] at Ho2
          have hS : S = tot := by rw [← Ho2.out.len, Ht.out]
          subst hS
          clear hfull
          go_wp2
          go_ret
          exact ⟨A2, c2, rfl, Ho2.out, Hb2.out⟩

set_option maxHeartbeats 800000 in
theorem order_small (A : Option Addr) (n cap : Nat) (xss : List (List Cl)) (w : World) (ha : SlS w w.heap.size A n xss) (hn : n ≤ 1000) (tot : Nat) (ht : xss.flatten.length = tot) (htot : tot < 20) :
    Calls Try.prog 28 #[.slice A n cap] w (OwnPost w.heap.size w tot (insF xss.flatten)) := by
  have H := hide (concat_any A n cap xss w ha hn tot ht (by omega)); clear ha
  have Ht := hide ht; clear ht
  go_enter Try.func28, Try.ntmps28
  go_wp2_with fail
  refine H.out.mono ?_
  rintro e w1 ⟨A1, c1, rfl, ho1, hb1⟩
  have Ho1 := hide ho1; clear ho1
  have Hb1 := hide hb1; clear hb1
  clear H
  rcases Nat.eq_zero_or_pos tot with h | h
  · subst h
    go_wp2_with fail
    refine (sort_none A1 c1 _).mono ?_
    rintro e w' ⟨rfl, rfl⟩
    go_wp2
    go_ret
    have hx : xss.flatten = [] := List.eq_nil_of_length_eq_zero Ht.out
    have h1 := Ho1.out
    rw [hx] at h1
    exact ⟨A1, c1, rfl, by rw [hx]; exact h1, Hb1.out⟩
  · obtain ⟨g, cap', hv, hg, _⟩ := World.ownsRow.form Ho1.out h
    injection hv with e1 e2 e3
    subst e1 e3
    have Hs := hide (sort_small g tot c1 xss.flatten w1 Ho1.out.toRow Ht.out htot)
    have Hg := hide hg; clear hg
    go_wp2_with fail
    refine Hs.out.mono ?_
    rintro e w2 ⟨rfl, hr2, hg2⟩
    have Hr2 := hide hr2; clear hr2
    have Hg2 := hide hg2; clear hg2
    clear Hs
    go_wp2
    go_ret
    have h3 := Hr2.out.toOwC (base := w.heap.size) Hg.out
    rw [insF_length, Ht.out] at h3
    exact ⟨_, c1, rfl, h3, Hb1.out.grown Hg2.out Hb1.out.size (fun k e => by injection e with e; rw [← e]; exact Hg.out)⟩
end Go.Proofs.Ythpbjceajnaokaa
