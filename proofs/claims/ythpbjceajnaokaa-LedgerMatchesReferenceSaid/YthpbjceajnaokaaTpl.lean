/- Plain laws of what is in force. No condition. -/
import Derived.Test.YthpbjceajnaokaaOpl
namespace Go.Proofs.Ythpbjceajnaokaa
open Go.RowKit

/-- The time of the last cancellation in a list, or one that is late. -/
def untilL (s : Int) (l : List Cl) : Int := l.foldl (fun u d => if cancels s d then d.time else u) 1099511627776
theorem untilL_snoc (s : Int) (l : List Cl) (d : Cl) : untilL s (l ++ [d]) = if cancels s d then d.time else untilL s l := by simp [untilL, List.foldl_append]
theorem untilL_none {s : Int} {l : List Cl} : (∀ d ∈ l, cancels s d = false) → untilL s l = 1099511627776 := by
  refine rev_ind (P := fun l => (∀ d ∈ l, cancels s d = false) → untilL s l = 1099511627776) (fun _ => rfl) (fun l d ih h => ?_) l
  rw [untilL_snoc, if_neg (by rw [h d (by simp)]; decide)]
  exact ih (fun x hx => h x (by simp [hx]))
theorem untilL_some {s : Int} {l : List Cl} : (∃ d ∈ l, cancels s d = true) → ∃ d ∈ l, cancels s d = true ∧ untilL s l = d.time := by
  refine rev_ind (P := fun l => (∃ d ∈ l, cancels s d = true) → ∃ d ∈ l, cancels s d = true ∧ untilL s l = d.time) (fun ⟨_, h, _⟩ => by cases h) (fun l d ih h => ?_) l
  rw [untilL_snoc]
  by_cases hd : cancels s d = true
  · exact ⟨d, by simp, hd, by rw [if_pos hd]⟩
  · obtain ⟨x, hx, hc⟩ := h
    rcases List.mem_append.1 hx with hx | hx
    · obtain ⟨y, hy, h1, h2⟩ := ih ⟨x, hx, hc⟩
      exact ⟨y, by simp [hy], h1, by rw [if_neg hd]; exact h2⟩
    · simp only [List.mem_singleton] at hx; rw [hx] at hc; exact absurd hc hd
/-- In a right chain, what is cancelled stands ahead. -/
theorem canc_stands {key firm : Int} {xs : List Cl} (h : chkF key firm xs = true) {n : Nat} {d : Cl} (hd : xs[n]? = some d) {s : Int} (hc : cancels s d = true) : standR (xs.take n) s = true := by
  simp only [cancels, Bool.and_eq_true, beq_iff_eq] at hc
  obtain ⟨_, _, _, _, _, _, q6⟩ := okAt_parts (chk_at h hd)
  have h1 := q6 hc.1
  have h2 := stand_of_ok (key := key) (firm := firm) (xs := xs) (k := n) (Nat.le_of_lt (List.getElem?_eq_some_iff.1 hd).1) (fun j hj => (chk_all h).2 j (by have := (List.getElem?_eq_some_iff.1 hd).1; omega)) d.a
  rw [h1, hc.2] at h2
  exact h2.symm
theorem canc_later {key firm : Int} {xs : List Cl} (h : chkF key firm xs = true) {n k : Nat} {d : Cl} (hd : xs[n]? = some d) (hc : cancels ((k : Int) + 1) d = true) : k < n := by
  have h1 := canc_stands h hd hc
  obtain ⟨k', c, e, hk, _⟩ := (standR_iff _ _).1 h1
  have := (List.getElem?_eq_some_iff.1 hk).1
  rw [List.length_take] at this
  omega
theorem canc_one {key firm : Int} {xs : List Cl} (h : chkF key firm xs = true) {n m : Nat} {c d : Cl} (hc : xs[n]? = some c) (hd : xs[m]? = some d) {k : Nat} (h1 : cancels ((k : Int) + 1) c = true) (h2 : cancels ((k : Int) + 1) d = true) : n = m := by
  have key1 : ∀ {n m : Nat} {c d : Cl}, xs[n]? = some c → xs[m]? = some d → cancels ((k : Int) + 1) c = true → cancels ((k : Int) + 1) d = true → ¬ n < m := by
    intro n m c d hc hd h1 h2 hnm
    obtain ⟨k', e, he, hk, _, hno⟩ := (standR_iff _ _).1 (canc_stands h hd h2)
    have hkk : k' = k := by omega
    subst hkk
    have h3 := hno n c (canc_later h hc h1) (by rw [List.getElem?_take, if_pos hnm]; exact hc)
    rw [h1] at h3
    cases h3
  have a1 := key1 hc hd h1 h2
  have a2 := key1 hd hc h2 h1
  omega
/-- Whether a claim is in force at a time, with the time of its cancellation. -/
def isB (T : Int) (c : Cl) (u : Int) : Bool := !(c.kind == 4) && decide (c.time ≤ T) && decide (T < u)
theorem gone_until {key firm : Int} {xs : List Cl} (h : chkF key firm xs = true) {k : Nat} {c : Cl} (hx : xs[k]? = some c) {T : Int} (hT : T ≤ 50) : goneL T xs c.seq = !(decide (T < untilL c.seq (xs.drop (k + 1)))) := by
  have hs := chk_seq h hx
  have hg : ∀ d : Cl, (d.kind == 4 && decide (d.time ≤ T) && d.a == c.seq) = (cancels c.seq d && decide (d.time ≤ T)) := fun d => by
    unfold cancels
    rw [Bool.and_right_comm]
  unfold goneL
  simp only [hg]
  by_cases hex : ∃ d ∈ xs.drop (k + 1), cancels c.seq d = true
  · obtain ⟨d, hd, hc, hu⟩ := untilL_some hex
    rw [hu]
    obtain ⟨n, hn, hdn⟩ := mem_drop_get hd
    by_cases hdt : d.time ≤ T
    · have e1 : (xs.any fun d => cancels c.seq d && decide (d.time ≤ T)) = true := by
        rw [List.any_eq_true]
        exact ⟨d, List.mem_of_getElem? hdn, by rw [hc, decide_eq_true hdt]; rfl⟩
      rw [e1, decide_eq_false (by omega)]; rfl
    · have e1 : (xs.any fun d => cancels c.seq d && decide (d.time ≤ T)) = false := by
        rw [List.any_eq_false]
        intro x hx2
        obtain ⟨m, hm⟩ := List.getElem?_of_mem hx2
        cases hcx : cancels c.seq x
        · simp
        · rw [hs] at hc hcx
          have hnm := canc_one h hdn hm hc hcx
          subst hnm
          rw [hdn] at hm
          injection hm with hm
          rw [← hm, decide_eq_false hdt]; decide
      rw [e1, decide_eq_true (by omega)]; rfl
  · have hno : ∀ d ∈ xs.drop (k + 1), cancels c.seq d = false := fun d hd => by
      cases hcd : cancels c.seq d
      · rfl
      · exact absurd ⟨d, hd, hcd⟩ hex
    rw [untilL_none hno, decide_eq_true (by omega)]
    have e1 : (xs.any fun d => cancels c.seq d && decide (d.time ≤ T)) = false := by
      rw [List.any_eq_false]
      intro x hx2
      obtain ⟨m, hm⟩ := List.getElem?_of_mem hx2
      cases hcx : cancels c.seq x
      · simp
      · rw [hs] at hcx
        have hkm := canc_later h hm hcx
        have h3 := hno x (List.mem_of_getElem? (i := m - (k + 1)) (by rw [List.getElem?_drop, show k + 1 + (m - (k + 1)) = m by omega]; exact hm))
        rw [hs, hcx] at h3
        cases h3
    rw [e1]; rfl
theorem gF_is {xss : List (List Cl)} {T : Int} {i : Nat} {xs : List Cl} (hx : xss[i]? = some xs) {n : Nat} (hl : xss.length = n) (s : Int) : gF xss T n 0 (i : Int) s = goneL T xs s := by
  have hi := (List.getElem?_eq_some_iff.1 hx).1
  unfold gF
  have e2 : ((i : Int) == (n : Int)) = false := by rw [beq_eq_false_iff_ne]; omega
  rw [e2, Bool.false_and, Bool.or_false]
  cases hg : goneL T xs s
  · rw [List.any_eq_false]
    intro q hq
    by_cases he : q = i
    · subst he; rw [hx]; simp [hg]
    · have : ((i : Int) == (q : Int)) = false := by rw [beq_eq_false_iff_ne]; omega
      simp [this]
  · rw [List.any_eq_true]
    exact ⟨i, List.mem_range.2 (by omega), by rw [hx]; simp [hg]⟩
/-- A claim of a chain is left in force just if it is in force. -/
theorem force_is {key firm : Int} {xss : List (List Cl)} {i n k : Nat} {xs : List Cl} {c : Cl} (hx : xss[i]? = some xs) (hl : xss.length = n) (h : chkF key firm xs = true) (hc : xs[k]? = some c) {T : Int} (hT : T ≤ 50) :
    (!(delB T (gF xss T n 0) (i : Int) c)) = isB T c (untilL c.seq (xs.drop (k + 1))) := by
  unfold delB isB
  rw [gF_is hx hl, gone_until h hc hT]
  cases hk : c.kind == 4
  · by_cases h1 : T < c.time
    · rw [decide_eq_true h1, decide_eq_false (show ¬ c.time ≤ T by omega)]; simp
    · rw [decide_eq_false h1, decide_eq_true (show c.time ≤ T by omega)]; simp
  · simp
theorem putF_has {l : List Cl} {x c : Cl} (h : c ∈ l ∨ c = x) : c ∈ putF l x := by
  obtain ⟨B1, B2, e1, e2, _⟩ := putF_split x l
  rw [e2]
  rw [e1] at h
  simp only [List.mem_append, List.mem_cons] at h ⊢
  rcases h with (h | h) | h <;> simp [h]
theorem foldl_has {xs : List Cl} : ∀ {l : List Cl} {c : Cl}, c ∈ l ∨ c ∈ xs → c ∈ xs.foldl putF l := by
  induction xs with
  | nil => intro l c h; exact h.elim id (fun h => by cases h)
  | cons x r ih =>
    intro l c h
    refine ih ?_
    rcases h with h | h
    · exact .inl (putF_has (.inl h))
    · rcases List.mem_cons.1 h with h | h
      · exact .inl (putF_has (.inr h))
      · exact .inr h
theorem insF_has {xs : List Cl} {c : Cl} (h : c ∈ xs) : c ∈ insF xs := foldl_has (.inr h)
/-- The chains with what is in force alone. -/
theorem forced_get {xss : List (List Cl)} {T : Int} {n q : Nat} (hl : xss.length = n) (hq : q < n) : ∃ xs, xss[q]? = some xs ∧ (forcedL xss T n)[q]? = some (keepC (delB T (gF xss T n 0) (q : Int)) xs) := by
  subst hl
  obtain ⟨xs, hx⟩ : ∃ xs, xss[q]? = some xs := ⟨xss[q], List.getElem?_eq_getElem hq⟩
  refine ⟨xs, hx, ?_⟩
  unfold forcedL
  rw [List.getElem?_map, List.getElem?_range hq]
  simp [hx]
theorem now_mem {xss : List (List Cl)} (hch : ChnP xss) (hl : xss.length = 3) {T : Int} {i : Nat} {xs : List Cl} {c : Cl} (hx : xss[i]? = some xs) (hc : c ∈ xs) : hasB (insF (forcedL xss T 3).flatten) c = !(delB T (gF xss T 3 0) (i : Int) c) := by
  have hi : i < 3 := by have := (List.getElem?_eq_some_iff.1 hx).1; omega
  have hmem : c ∈ insF (forcedL xss T 3).flatten ↔ delB T (gF xss T 3 0) (i : Int) c = false := by
    constructor
    · intro h
      obtain ⟨l, hl1, hl2⟩ := List.mem_flatten.1 (insF_mem h)
      obtain ⟨q, hq⟩ := List.getElem?_of_mem hl1
      have hq3 : q < 3 := by
        have := (List.getElem?_eq_some_iff.1 hq).1
        unfold forcedL at this
        simpa using this
      obtain ⟨ys, hy, he⟩ := forced_get (T := T) hl hq3
      rw [hq] at he
      injection he with he
      subst he
      unfold keepC at hl2
      rw [List.mem_filter] at hl2
      have f1 := chn_firm hch hx c hc
      have f2 := chn_firm hch hy c hl2.1
      have hqi : q = i := by omega
      subst hqi
      simpa using hl2.2
    · intro h
      have hf : c ∈ (forcedL xss T 3).flatten := by
        obtain ⟨ys, hy, he⟩ := forced_get (T := T) hl hi
        rw [hx] at hy
        injection hy with hy
        subst hy
        refine List.mem_flatten.2 ⟨_, List.mem_of_getElem? he, ?_⟩
        unfold keepC
        rw [List.mem_filter]
        exact ⟨hc, by simp [h]⟩
      exact insF_has hf
  unfold hasB
  cases hd : delB T (gF xss T 3 0) (i : Int) c
  · exact decide_eq_true (hmem.2 hd)
  · exact decide_eq_false (fun e => by rw [hmem.1 e] at hd; cases hd)
theorem keepC_len {pr : Cl → Bool} {xs : List Cl} {k : Nat} {c : Cl} (hx : xs[k]? = some c) : (keepC pr (xs.take (k + 1))).length = (keepC pr (xs.take k)).length + if !(pr c) then 1 else 0 := by
  rw [keepC_more hx (pr c) rfl]
  cases pr c <;> simp
theorem forced_le (xss : List (List Cl)) (T : Int) (n : Nat) (hl : xss.length = n) (hle : ∀ xs ∈ xss, xs.length ≤ 12) : (forcedL xss T n).flatten.length ≤ 12 * n := by
  have : ∀ (L : List (List Cl)), (∀ l ∈ L, l.length ≤ 12) → L.flatten.length ≤ 12 * L.length := by
    intro L
    induction L with
    | nil => intro _; simp
    | cons l r ih =>
      intro h
      have h1 := ih (fun x hx => h x (List.mem_cons_of_mem _ hx))
      have h2 := h l (List.mem_cons_self ..)
      simp only [List.flatten_cons, List.length_append, List.length_cons]
      omega
  have h2 := this (forcedL xss T n) (fun l hl' => by
    obtain ⟨q, hq⟩ := List.getElem?_of_mem hl'
    have hqn : q < n := by
      have := (List.getElem?_eq_some_iff.1 hq).1
      unfold forcedL at this
      simpa using this
    obtain ⟨ys, hy, he⟩ := forced_get (T := T) hl hqn
    rw [hq] at he
    injection he with he
    subst he
    exact Nat.le_trans (List.length_filter_le _ _) (hle ys (List.mem_of_getElem? hy)))
  have h3 : (forcedL xss T n).length = n := by unfold forcedL; simp
  rwa [h3] at h2
/-- The latest claim about something is in force, and none about it stands behind it. -/
theorem latest_yes {firm kind a : Int} {xs : List Cl} (hs : srt xs) {x : Cl} (h : latestF firm kind a xs = some x) : x ∈ xs ∧ aboutC firm kind a x = true ∧ ∀ c ∈ xs, aboutC firm kind a c = true → ltC x c = false := by
  revert h hs
  refine rev_ind (P := fun xs => srt xs → latestF firm kind a xs = some x → x ∈ xs ∧ aboutC firm kind a x = true ∧ ∀ c ∈ xs, aboutC firm kind a c = true → ltC x c = false) (fun _ h => by simp [latestF] at h) (fun l y ih hs h => ?_) xs
  unfold srt at hs
  rw [List.pairwise_append] at hs
  unfold latestF at h
  rw [List.reverse_append] at h
  simp only [List.reverse_cons, List.reverse_nil, List.nil_append, List.singleton_append, List.find?_cons] at h
  by_cases hy : aboutC firm kind a y = true
  · rw [hy] at h
    simp only [Option.some.injEq] at h
    subst h
    refine ⟨by simp, hy, fun c hc _ => ?_⟩
    rcases List.mem_append.1 hc with hc | hc
    · exact hs.2.2 c hc y (by simp)
    · simp only [List.mem_singleton] at hc; rw [hc]; exact ltC_irr y
  · have hy2 : aboutC firm kind a y = false := by simpa using hy
    rw [hy2] at h
    obtain ⟨h1, h2, h3⟩ := ih hs.1 h
    refine ⟨by simp [h1], h2, fun c hc ha => ?_⟩
    rcases List.mem_append.1 hc with hc | hc
    · exact h3 c hc ha
    · simp only [List.mem_singleton] at hc; rw [hc] at ha; exact absurd ha hy
theorem latest_no {firm kind a : Int} {xs : List Cl} (h : latestF firm kind a xs = none) : ∀ c ∈ xs, aboutC firm kind a c = false := by
  unfold latestF at h
  rw [List.find?_eq_none] at h
  intro c hc
  have := h c (List.mem_reverse.2 hc)
  simpa using this
end Go.Proofs.Ythpbjceajnaokaa
