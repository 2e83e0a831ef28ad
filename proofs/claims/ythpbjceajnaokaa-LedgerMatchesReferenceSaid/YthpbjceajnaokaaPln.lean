/- Plain laws of right chains: their beginnings, their continuations, their forks. No condition. -/
import Derived.Test.YthpbjceajnaokaaMad
namespace Go.Proofs.Ythpbjceajnaokaa
open Go.RowKit

theorem chk_all {key firm : Int} {xs : List Cl} (h : chkF key firm xs = true) : xs.length ≤ 1000 ∧ ∀ j, j < xs.length → okAt key firm (xs.take j) (xs[j]?.getD zeroC) = true := by
  unfold chkF at h
  rw [Bool.and_eq_true, List.all_eq_true] at h
  exact ⟨by simpa using h.1, fun j hj => h.2 j (List.mem_range.2 hj)⟩
theorem chk_snoc {key firm : Int} {xs : List Cl} {c : Cl} (h : chkF key firm xs = true) (hc : okAt key firm xs c = true) (hl : xs.length < 1000) : chkF key firm (xs ++ [c]) = true := by
  obtain ⟨_, h2⟩ := chk_all h
  refine chk_good (by simp; omega) fun j hj => ?_
  by_cases hjl : j < xs.length
  · rw [List.take_append_of_le_length (by omega), List.getElem?_append_left hjl]
    exact h2 j hjl
  · have hje : j = xs.length := by simp at hj; omega
    subst hje
    rw [List.take_append_of_le_length (Nat.le_refl _), List.take_length, List.getElem?_append_right (Nat.le_refl _), Nat.sub_self]
    exact hc
theorem chk_at {key firm : Int} {xs : List Cl} {j : Nat} {c : Cl} (h : chkF key firm xs = true) (hx : xs[j]? = some c) : okAt key firm (xs.take j) c = true := by
  have := (chk_all h).2 j (List.getElem?_eq_some_iff.1 hx).1
  rwa [hx] at this
theorem last_ok {key firm : Int} {xs : List Cl} (h : chkF key firm xs = true) : 0 ≤ (lastC xs).time ∧ (lastC xs).time ≤ 1099511627776 := by
  by_cases hx : xs = []
  · subst hx; exact ⟨by decide, by decide⟩
  · have hl : 0 < xs.length := List.length_pos_iff.2 hx
    have hg := List.getElem?_eq_getElem (l := xs) (i := xs.length - 1) (by omega)
    have := ((okF_iff _).1 (okAt_parts (chk_at h hg)).1)
    rw [lastC, List.getLast?_eq_getElem?, hg]
    exact ⟨this.2.2.2.2.1, this.2.2.2.2.2.1⟩
theorem okAt_intro {key firm : Int} {p : List Cl} {c : Cl} (h0 : okF c = true) (h1 : c.firm = firm) (h2 : c.seq = (p.length : Int) + 1) (h3 : ¬ c.time < (lastC p).time) (h4 : c.prev = prevD p) (h5 : c.tag = tagC key c) (h6 : ¬ c.kind = 4) : okAt key firm p c = true :=
  okAt_7 rfl h0 (by rw [h1]; simp) (by rw [h2]; simp) (decide_eq_false h3) (by rw [h4]; simp) (by rw [← h5]; simp) (by rw [Bool.or_eq_true]; exact .inl (by simpa using h6))
theorem dig_tag (c : Cl) (t : Int) : digC { c with tag := t } = digC c := by
  unfold digC
  rfl
theorem tag_next (key : Int) (xs : List Cl) (c : Cl) : tagC key (nextC key xs c) = (nextC key xs c).tag := by
  have h : digC (nextC key xs c) = digC (linkC xs c) := dig_tag (linkC xs c) _
  show tagC key (nextC key xs c) = tagC key (linkC xs c)
  unfold tagC
  rw [h]
/-- A rule's claim at a right chain's end is right. -/
theorem next_rule {key : Int} {ys : List Cl} {y : Int} (h : chkF key 2 ys = true) (hl : ys.length ≤ 12) :
    ∃ G, nextC key ys ⟨2, 0, (lastC ys).time, 3, 0, y, 0, 0, 0⟩ = ⟨2, (ys.length : Int) + 1, (lastC ys).time, 3, 0, y, 0, prevD ys, G⟩ ∧ tagC key ⟨2, (ys.length : Int) + 1, (lastC ys).time, 3, 0, y, 0, prevD ys, G⟩ = G ∧
      chkF key 2 (ys ++ [nextC key ys ⟨2, 0, (lastC ys).time, 3, 0, y, 0, 0, 0⟩]) = true := by
  obtain ⟨G, hG⟩ : ∃ G, G = (nextC key ys ⟨2, 0, (lastC ys).time, 3, 0, y, 0, 0, 0⟩).tag := ⟨_, rfl⟩
  have he : nextC key ys ⟨2, 0, (lastC ys).time, 3, 0, y, 0, 0, 0⟩ = ⟨2, (ys.length : Int) + 1, (lastC ys).time, 3, 0, y, 0, prevD ys, G⟩ := by rw [hG]; rfl
  have ht := tag_next key ys ⟨2, 0, (lastC ys).time, 3, 0, y, 0, 0, 0⟩
  rw [he] at ht
  refine ⟨G, he, ht, ?_⟩
  rw [he]
  refine chk_snoc h ?_ (by omega)
  clear he hG
  obtain ⟨h1, h2⟩ := last_ok h
  refine okAt_intro ((okF_iff _).2 ⟨?_, ?_, ?_, ?_, h1, h2, ?_, ?_, ?_, ?_⟩) rfl rfl (fun h => absurd h (by show ¬ (lastC ys).time < (lastC ys).time; omega)) rfl ht.symm (by show ¬ (3 : Int) = 4; omega)
  · show (0 : Int) ≤ 2; omega
  · show (2 : Int) ≤ 7; omega
  · show (1 : Int) ≤ (ys.length : Int) + 1; omega
  · show (ys.length : Int) + 1 ≤ 1000; omega
  · show (1 : Int) ≤ 3; omega
  · show (3 : Int) ≤ 4; omega
  · show (0 : Int) ≤ 0; omega
  · show (0 : Int) ≤ 1073741824; omega
theorem fork_takes (xs : List Cl) (i j : Nat) : forkF (xs.take i) (xs.take j) = none := by
  refine forkF_miss _ _ (min i j) ?_ ?_
  · rw [List.take_take, List.take_take]
    congr 1
    omega
  · rw [List.length_take, List.length_take]; omega
theorem fork_ends (ys : List Cl) (c d : Cl) (h : c ≠ d) : forkF (ys ++ [c]) (ys ++ [d]) = some ys.length := by
  refine forkF_hit _ _ ys.length c d ?_ ?_ ?_ h
  · rw [List.take_append_of_le_length (Nat.le_refl _), List.take_append_of_le_length (Nat.le_refl _)]
  · rw [List.getElem?_append_right (Nat.le_refl _), Nat.sub_self]; rfl
  · rw [List.getElem?_append_right (Nat.le_refl _), Nat.sub_self]; rfl
theorem merge_takes {ad : Addr} {m cb i j : Nat} {xs : List Cl} {w : World} (hs : SlC w w.heap.size (some ad) m xs) (hi : i ≤ m) (hj : j ≤ m) (hm : m ≤ 12) :
    Calls Try.prog 22 #[.slice (some ad) i cb, .slice (some ad) j cb] w fun e w' => e = .returned (.agg #[.slice (some ad) (max i j) cb, .int .i64 0]) ∧ Below w.heap.size w w' :=
  (merge_any (some ad) (some ad) i j cb cb (xs.take i) (xs.take j) w (hs.take hi) (hs.take hj) (by omega) (by omega)).mono fun e w' ⟨p, k, c, er, h1, h2, h3⟩ => by
    have hf : (forkF (xs.take i) (xs.take j)).isSome = false := by rw [fork_takes]; rfl
    rcases h2 with h2 | h2 | h2
    · rw [hf] at h2; exact absurd h2.1 (by decide)
    · obtain ⟨_, hlt, rfl, rfl, rfl, rfl⟩ := h2
      exact ⟨by rw [h1, show max i k = k by omega], h3⟩
    · obtain ⟨_, hlt, rfl, rfl, rfl, rfl⟩ := h2
      exact ⟨by rw [h1, show max k j = k by omega], h3⟩
theorem forked_takes {ad : Addr} {m cb i j : Nat} {xs : List Cl} {w : World} (hs : SlC w w.heap.size (some ad) m xs) (hi : i ≤ m) (hj : j ≤ m) (hm : m ≤ 12) :
    Calls Try.prog 24 #[.slice (some ad) i cb, .slice (some ad) j cb] w fun e w' => e = .returned (.agg #[.int .i64 0, .bool false]) ∧ Below w.heap.size w w' := by
  have h := forked_any (some ad) (some ad) i j cb cb (xs.take i) (xs.take j) w (hs.take hi) (hs.take hj) (by omega) (by omega)
  unfold ForkedPost at h
  rw [fork_takes] at h
  exact h
theorem forked_ends {A B : Option Addr} {n ca cb : Nat} {ys : List Cl} {c d : Cl} {w : World} (ha : SlC w w.heap.size A (n + 1) (ys ++ [c])) (hb : SlC w w.heap.size B (n + 1) (ys ++ [d])) (hn : n ≤ 12) (h : c ≠ d) :
    Calls Try.prog 24 #[.slice A (n + 1) ca, .slice B (n + 1) cb] w fun e w' => e = .returned (.agg #[.int .i64 (n : Int), .bool true]) ∧ Below w.heap.size w w' := by
  have hl : ys.length = n := by have := ha.1; simp at this; exact this
  have h := forked_any A B (n + 1) (n + 1) ca cb (ys ++ [c]) (ys ++ [d]) w ha hb (by omega) (by omega)
  unfold ForkedPost at h
  rw [fork_ends _ _ _ (by assumption), hl] at h
  exact h
theorem merge_ends {A B : Option Addr} {n ca cb : Nat} {ys : List Cl} {c d : Cl} {w : World} (ha : SlC w w.heap.size A (n + 1) (ys ++ [c])) (hb : SlC w w.heap.size B (n + 1) (ys ++ [d])) (hn : n ≤ 12) (h : c ≠ d) :
    Calls Try.prog 22 #[.slice A (n + 1) ca, .slice B (n + 1) cb] w fun e w' => e = .returned (.agg #[.slice none 0 0, .int .i64 270]) ∧ Below w.heap.size w w' :=
  (merge_any A B (n + 1) (n + 1) ca cb (ys ++ [c]) (ys ++ [d]) w ha hb (by omega) (by omega)).mono fun e w' ⟨p, k, c', er, h1, h2, h3⟩ => by
    have hf : (forkF (ys ++ [c]) (ys ++ [d])).isSome = true := by rw [fork_ends _ _ _ h]; rfl
    rcases h2 with h2 | h2 | h2
    · obtain ⟨_, rfl, rfl, rfl, rfl⟩ := h2
      exact ⟨h1, h3⟩
    · rw [hf] at h2; exact absurd h2.1 (by decide)
    · rw [hf] at h2; exact absurd h2.1 (by decide)
theorem rem_is {p : Int} {m : Nat} (hp : 0 ≤ p ∧ p < 256) : ∃ i : Nat, (wrap64 p).tmod ((m : Int) + 1) = (i : Int) ∧ i ≤ m := by
  rw [IntWalk.wrap64_in _ (by omega), Int.tmod_eq_emod_of_nonneg hp.1]
  have h1 := Int.emod_nonneg p (b := (m : Int) + 1) (by omega)
  have h2 := Int.emod_lt_of_pos p (b := (m : Int) + 1) (by omega)
  exact ⟨(p % ((m : Int) + 1)).toNat, by omega, by omega⟩
end Go.Proofs.Ythpbjceajnaokaa
