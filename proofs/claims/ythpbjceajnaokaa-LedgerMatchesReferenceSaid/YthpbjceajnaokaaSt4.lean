/- The library's stable sort, and Order, on fewer than forty claims. Condition: fewer than forty claims in all. -/
import Derived.Test.YthpbjceajnaokaaSm2
import Derived.Test.YthpbjceajnaokaaOrd
namespace Go.Proofs.Ythpbjceajnaokaa
open Go.RowKit

theorem symmerge_any : ∀ N, SymC N
  | 0 => fun g n cap P L R S w hr hn hn0 hL hR sL sR hN => absurd hN (by omega)
  | N + 1 => fun g n cap P L R S w hr hn hn0 hL hR sL sR hN a m b ha hm hb => by
    by_cases h1 : L.length = 1
    · obtain ⟨x, rfl⟩ := List.length_eq_one_iff.1 h1
      have h := sym_one g n cap P R S x w (by simpa using hr) (by simpa using hn) hn0 hR sR a m b ha (by simpa [ha] using hm) (by rw [← hm]; simpa using hb)
      exact h
    · by_cases h2 : R.length = 1
      · obtain ⟨y, rfl⟩ := List.length_eq_one_iff.1 h2
        exact sym_last g n cap P L S y w (by simpa using hr) (by simpa using hn) hn0 (by omega) sL a m b ha (by rw [← hm, ha]) (by rw [← hm]; simpa using hb)
      · exact sym_more N (symmerge_any N) g n cap P L R S w hr hn hn0 (by omega) (by omega) sL sR hN a m b ha (by rw [← hm, ha]) (by rw [← hm]; exact hb)

set_option maxRecDepth 100000 in
set_option maxHeartbeats 2000000 in
theorem stable_mid (g n cap : Nat) (xs : List Cl) (w : World) (hr : Row w g cap xs) (hn : xs.length = n) (hlo : 20 < n) (hhi : n < 40) :
    Calls Try.prog 62 #[.slice (some ⟨g, 0, none⟩) n cap, .int .i64 n, .func (.func 49) #[] #[]] w (NoRes w g cap (insF xs)) := by
  have l1 : (xs.take 20).length = 20 := by rw [List.length_take]; omega
  have l2 : (xs.drop 20).length = n - 20 := by rw [List.length_drop]; omega
  have hxs := List.take_append_drop 20 xs
  have hins := insF_parts (xs.take 20) (xs.drop 20)
  rw [hxs] at hins
  obtain ⟨A, hA⟩ : ∃ l, l = xs.take 20 := ⟨_, rfl⟩
  obtain ⟨B, hB⟩ : ∃ l, l = xs.drop 20 := ⟨_, rfl⟩
  rw [← hA] at l1 hxs hins
  rw [← hB] at l2 hxs hins
  rw [← hxs] at hr hn
  have la : (insF A).length = 20 := by rw [insF_length, l1]
  have lb : (insF B).length = n - 20 := by rw [insF_length, l2]
  have h1 := fun (w : World) (hr : Row w g cap (A ++ B)) => hide (insertion_any g n cap [] A B w (by simpa using hr) (by simpa using hn) (by omega) 0 20 rfl (by simpa using l1))
  have h2 := fun (w : World) (hr : Row w g cap (insF A ++ B)) => hide (insertion_any g n cap (insF A) B [] w (by simpa using hr) (by rw [List.append_nil, List.length_append, la, l2]; omega) (by omega) 20 n la (by rw [List.length_append, la, l2]; omega))
  have h3 := fun (w : World) (hr : Row w g cap (insF A ++ insF B)) => hide (symmerge_any (20 + (n - 20)) g n cap [] (insF A) (insF B) [] w (by simpa using hr) (by rw [List.append_nil, List.nil_append, List.length_append, la, lb]; omega) (by omega) (by omega) (by omega) (insF_srt A) (insF_srt B) (by rw [la, lb]; exact Nat.le_refl _) 0 20 n rfl (by rw [la]; rfl) (by rw [la, lb, List.length_nil]; omega))
  simp only [List.nil_append, List.append_nil, Int.natCast_zero] at h1 h2 h3
  have Hins := hide hins
  have Hr := hide hr
  clear hins hr hn hA hB hxs l1 l2 la lb
  go_enter Try.func62, Try.ntmps62
  go_wp2
  go_loopg [7, 8] 2 (fun gk a i wr => (a = .int .i64 0 ∧ i = .int .i64 20 ∧ wr = w ∧ gk = 2) ∨ (a = .int .i64 20 ∧ i = .int .i64 40 ∧ Row wr g cap (insF A ++ B) ∧ w.grownBy wr (some g)))
  case atStart => exact .inl ⟨rfl, rfl, rfl, rfl⟩
  case round =>
    rcases hrel with ⟨rfl, rfl, rfl, rfl⟩ | ⟨rfl, rfl, hrow, hgr⟩
    · have hq : (20 : Int) ≤ (n : Int) := by omega
      go_wp2_with fail
      refine (h1 _ Hr.out).out.mono ?_
      rintro e w1 ⟨rfl, hr1, hg1⟩
      have Hr1 := hide hr1; clear hr1
      have Hg1 := hide hg1; clear hg1
      go_wp2
      go_roundg 1
      case measure => omega
      case rel => exact .inr ⟨rfl, rfl, Hr1.out, Hg1.out⟩
    · have Hrow := hide hrow; clear hrow
      have Hgr := hide hgr; clear hgr
      have hq : ¬ (40 : Int) ≤ (n : Int) := by omega
      go_wp2_with fail
      refine (h2 _ Hrow.out).out.mono ?_
      rintro e w1 ⟨rfl, hr1, hg1⟩
      have Hr1 := hide hr1; clear hr1
      have Hg1 := hide (Hgr.out.trans hg1); clear hg1 Hrow Hgr
      go_wp2
      go_loopg [6] 2 (fun gk b wr => (b = .int .i64 20 ∧ wr = w1 ∧ gk = 2) ∨ (b = .int .i64 40 ∧ Row wr g cap (insF xs) ∧ w.grownBy wr (some g)))
      case atStart => exact .inl ⟨rfl, rfl, rfl⟩
      case round =>
        rcases hrel with ⟨rfl, rfl, rfl⟩ | ⟨rfl, hrow, hgr⟩
        · have hq2 : (20 : Int) < (n : Int) := by omega
          go_wp2
          go_loop [7, 8] (fun a i => a = .int .i64 0 ∧ i = .int .i64 40) (fun _ _ => 0)
          case atStart => exact ⟨rfl, rfl⟩
          case round =>
            obtain ⟨rfl, rfl⟩ := hrel
            go_wp2_with fail
            refine (h3 _ Hr1.out).out.mono ?_
            rintro e w2 ⟨rfl, hr2, hg2⟩
            have Hr2 := hide hr2; clear hr2
            have Hg2 := hide (Hg1.out.trans hg2); clear hg2
            go_wp2
            go_roundg 1
            case measure => omega
            case rel => exact .inr ⟨rfl, by rw [Hins.out]; exact Hr2.out, Hg2.out⟩
        · have Hrow := hide hrow; clear hrow
          have Hgr := hide hgr; clear hgr
          go_wp2
          go_end0
          exact ⟨rfl, Hrow.out, Hgr.out⟩

set_option maxRecDepth 100000 in
set_option maxHeartbeats 2000000 in
theorem stable_20 (g cap : Nat) (xs : List Cl) (w : World) (hr : Row w g cap xs) (hn : xs.length = 20) :
    Calls Try.prog 62 #[.slice (some ⟨g, 0, none⟩) 20 cap, .int .i64 20, .func (.func 49) #[] #[]] w (NoRes w g cap (insF xs)) := by
  have h1 := fun (w : World) (hr : Row w g cap xs) => hide (insertion_any g 20 cap [] xs [] w (by simpa using hr) (by simpa using hn) (by omega) 0 20 rfl (by simpa using hn))
  have h2 := fun (w : World) (hr : Row w g cap (insF xs)) => hide (insertion_any g 20 cap (insF xs) [] [] w (by simpa using hr) (by rw [List.append_nil, List.append_nil, insF_length]; exact hn) (by omega) 20 20 (by rw [insF_length]; exact hn) (by rw [List.append_nil, insF_length]; exact hn))
  have hi : insF [] = [] := rfl
  rw [hi] at h2
  simp only [List.nil_append, List.append_nil, Int.natCast_zero] at h1 h2
  have c20 : ((20 : Nat) : Int) = 20 := rfl
  rw [c20] at h1 h2
  have Hr := hide hr
  clear hr hn hi c20
  go_enter Try.func62, Try.ntmps62
  go_wp2
  go_loopg [7, 8] 2 (fun gk a i wr => (a = .int .i64 0 ∧ i = .int .i64 20 ∧ wr = w ∧ gk = 2) ∨ (a = .int .i64 20 ∧ i = .int .i64 40 ∧ Row wr g cap (insF xs) ∧ w.grownBy wr (some g)))
  case atStart => exact .inl ⟨rfl, rfl, rfl, rfl⟩
  case round =>
    rcases hrel with ⟨rfl, rfl, rfl, rfl⟩ | ⟨rfl, rfl, hrow, hgr⟩
    · go_wp2_with fail
      refine (h1 _ Hr.out).out.mono ?_
      rintro e w1 ⟨rfl, hr1, hg1⟩
      have Hr1 := hide hr1; clear hr1
      have Hg1 := hide hg1; clear hg1
      go_wp2
      go_roundg 1
      case measure => omega
      case rel => exact .inr ⟨rfl, rfl, Hr1.out, Hg1.out⟩
    · have Hrow := hide hrow; clear hrow
      have Hgr := hide hgr; clear hgr
      go_wp2_with fail
      refine (h2 _ Hrow.out).out.mono ?_
      rintro e w1 ⟨rfl, hr1, hg1⟩
      have Hr1 := hide hr1; clear hr1
      have Hg1 := hide (Hgr.out.trans hg1); clear hg1 Hrow Hgr
      go_wp2
      go_loop [6] (fun i => i = .int .i64 20) (fun _ => 0)
      case atStart => rfl
      case round =>
        subst hrel
        go_wp2
        go_end0
        exact ⟨rfl, Hr1.out, Hg1.out⟩
theorem stable_any (g n cap : Nat) (xs : List Cl) (w : World) (hr : Row w g cap xs) (hn : xs.length = n) (hn0 : n < 40) :
    Calls Try.prog 62 #[.slice (some ⟨g, 0, none⟩) n cap, .int .i64 n, .func (.func 49) #[] #[]] w (NoRes w g cap (insF xs)) := by
  by_cases h1 : n < 20
  · exact stable_small g n cap xs w hr hn h1
  · by_cases h2 : n = 20
    · subst h2; exact stable_20 g cap xs w hr hn
    · exact stable_mid g n cap xs w hr hn (by omega) hn0
theorem sort_mid (g n cap : Nat) (xs : List Cl) (w : World) (hr : Row w g cap xs) (hn : xs.length = n) (hn0 : n < 40) :
    Calls Try.prog 48 #[.slice (some ⟨g, 0, none⟩) n cap, .func (.func 49) #[] #[]] w (NoRes w g cap (insF xs)) := by
  have H1 := hide (stable_any g n cap xs w hr hn hn0); clear hr hn
  go_enter Try.func48, Try.ntmps48
  go_wp2_with fail
  refine H1.out.mono ?_
  rintro e w1 ⟨rfl, hr1, hg1⟩
  have Hr1 := hide hr1; clear hr1
  have Hg1 := hide hg1; clear hg1
  go_wp2
  go_end0
  exact ⟨rfl, Hr1.out, Hg1.out⟩


set_option maxHeartbeats 800000 in
theorem order_any (A : Option Addr) (n cap : Nat) (xss : List (List Cl)) (w : World) (ha : SlS w w.heap.size A n xss) (hn : n ≤ 1000) (tot : Nat) (ht : xss.flatten.length = tot) (htot : tot < 40) :
    Calls Try.prog 28 #[.slice A n cap] w (OwnPost w.heap.size w tot (insF xss.flatten)) := by
  have H := hide (concat_any A n cap xss w ha hn tot ht (by omega)); clear ha
  have Ht := hide ht; clear ht
  go_enter Try.func28, Try.ntmps28
  go_wp2_with fail
  refine H.out.mono ?_
  rintro e w1 ⟨A1, c1, rfl, ho1, hb1⟩
  have Ho1 := hide ho1; clear ho1
  have Hb1 := hide hb1; clear hb1
  clear H
  rcases Nat.eq_zero_or_pos tot with h | h
  · subst h
    go_wp2_with fail
    refine (sort_none A1 c1 _).mono ?_
    rintro e w' ⟨rfl, rfl⟩
    go_wp2
    go_ret
    have hx : xss.flatten = [] := List.eq_nil_of_length_eq_zero Ht.out
    have h1 := Ho1.out
    rw [hx] at h1
    exact ⟨A1, c1, rfl, by rw [hx]; exact h1, Hb1.out⟩
  · obtain ⟨g, cap', hv, hg, _⟩ := World.ownsRow.form Ho1.out h
    injection hv with e1 e2 e3
    subst e1 e3
    have Hs := hide (sort_mid g tot c1 xss.flatten w1 Ho1.out.toRow Ht.out htot)
    have Hg := hide hg; clear hg
    go_wp2_with fail
    refine Hs.out.mono ?_
    rintro e w2 ⟨rfl, hr2, hg2⟩
    have Hr2 := hide hr2; clear hr2
    have Hg2 := hide hg2; clear hg2
    clear Hs
    go_wp2
    go_ret
    have h3 := Hr2.out.toOwC (base := w.heap.size) Hg.out
    rw [insF_length, Ht.out] at h3
    exact ⟨_, c1, rfl, h3, Hb1.out.grown Hg2.out Hb1.out.size (fun k e => by injection e with e; rw [← e]; exact Hg.out)⟩
end Go.Proofs.Ythpbjceajnaokaa
