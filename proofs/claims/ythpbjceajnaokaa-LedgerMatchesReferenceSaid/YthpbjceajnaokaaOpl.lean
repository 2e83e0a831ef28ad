/- Plain laws of orders: the claims of one firm in an order, chains of different firms in another order. No condition. -/
import Derived.Test.YthpbjceajnaokaaSym
import Derived.Test.YthpbjceajnaokaaChn
import Derived.Test.YthpbjceajnaokaaPln
namespace Go.Proofs.Ythpbjceajnaokaa
open Go.RowKit

theorem ltC_firms {c d : Cl} (h : c.firm ≠ d.firm) : ltC c d = true ∨ ltC d c = true := by rw [ltC_iff, ltC_iff]; omega
theorem putF_swap {c d : Cl} (h : c.firm ≠ d.firm) (M : List Cl) : putF (putF M c) d = putF (putF M d) c := by
  rcases ltC_firms h with h | h
  · exact putF_comm h M
  · exact (putF_comm h M).symm
theorem foldl_one {x : Cl} (B : List Cl) : ∀ (M : List Cl), (∀ b ∈ B, x.firm ≠ b.firm) → B.foldl putF (putF M x) = putF (B.foldl putF M) x := by
  induction B with
  | nil => intro M _; rfl
  | cons b r ih =>
    intro M h
    rw [List.foldl_cons, List.foldl_cons, putF_swap (h b (List.mem_cons_self ..)), ih _ (fun c hc => h c (List.mem_cons_of_mem _ hc))]
theorem foldl_swap (A B : List Cl) : ∀ (M : List Cl), (∀ a ∈ A, ∀ b ∈ B, a.firm ≠ b.firm) → B.foldl putF (A.foldl putF M) = A.foldl putF (B.foldl putF M) := by
  induction A with
  | nil => intro M _; rfl
  | cons a r ih =>
    intro M h
    rw [List.foldl_cons, ih _ (fun c hc => h c (List.mem_cons_of_mem _ hc)), foldl_one B M (h a (List.mem_cons_self ..))]
    rfl
/-- Chains of different firms in another order. -/
theorem insF_turn (A B : List Cl) (h : ∀ a ∈ A, ∀ b ∈ B, a.firm ≠ b.firm) : insF (A ++ B) = insF (B ++ A) := by
  unfold insF
  rw [List.foldl_append, List.foldl_append, foldl_swap A B [] h]
theorem putF_filter (p : Cl → Bool) (x : Cl) (l : List Cl) : srt l → (putF l x).filter p = if p x then putF (l.filter p) x else l.filter p := by
  refine rev_ind (P := fun l => srt l → (putF l x).filter p = if p x then putF (l.filter p) x else l.filter p) ?_ (fun l y ih h => ?_) l
  · intro _
    rw [putF_nil]
    by_cases hp : p x = true <;> simp [hp, putF_nil]
  · have hs : srt l := by unfold srt at h; rw [List.pairwise_append] at h; exact h.1
    have hly : ∀ z ∈ l, ltC y z = false := by unfold srt at h; rw [List.pairwise_append] at h; exact fun z hz => h.2.2 z hz y (by simp)
    rw [putF_snoc]
    rcases Bool.eq_false_or_eq_true (ltC x y) with hxy | hxy
    · rw [if_pos hxy, List.filter_append, ih hs, List.filter_append]
      by_cases hy : p y = true
      · rw [show [y].filter p = [y] by simp [hy]]
        by_cases hx : p x = true
        · rw [if_pos hx, if_pos hx, putF_snoc, if_pos hxy]
        · rw [if_neg hx, if_neg hx]
      · rw [show [y].filter p = [] by simp [hy]]
        simp
    · rw [if_neg (by rw [hxy]; decide), show l ++ [y, x] = l ++ [y] ++ [x] by simp, List.filter_append]
      by_cases hx : p x = true
      · rw [if_pos hx, show [x].filter p = [x] by simp [hx], putF_end]
        intro z hz
        rw [List.mem_filter] at hz
        rcases List.mem_append.1 hz.1 with hz | hz
        · exact leC_trans (hly z hz) hxy
        · simp only [List.mem_singleton] at hz; rw [hz]; exact hxy
      · rw [if_neg hx, show [x].filter p = [] by simp [hx]]
        simp
theorem insF_filter (p : Cl → Bool) (xs : List Cl) : (insF xs).filter p = insF (xs.filter p) := by
  refine rev_ind (P := fun xs => (insF xs).filter p = insF (xs.filter p)) rfl (fun l y ih => ?_) xs
  rw [insF_snoc, putF_filter p y _ (insF_srt l), ih, List.filter_append]
  by_cases hy : p y = true
  · rw [if_pos hy, show [y].filter p = [y] by simp [hy], insF_snoc]
  · rw [if_neg hy, show [y].filter p = [] by simp [hy], List.append_nil]
theorem insF_sorted {xs : List Cl} (h : srt xs) : insF xs = xs := by
  have := foldl_sorted (l := []) xs (by rwa [List.nil_append])
  rwa [List.nil_append] at this
theorem insF_mem {xs : List Cl} {c : Cl} (h : c ∈ insF xs) : c ∈ xs := by
  rcases foldl_mem (l := []) h with h | h
  · cases h
  · exact h
/-- A right chain stands in order. -/
theorem chk_time {key firm : Int} {xs : List Cl} (h : chkF key firm xs = true) : ∀ (j : Nat) (c d : Cl), xs[j]? = some c → xs[j + 1]? = some d → c.time ≤ d.time := by
  intro j c d hc hd
  obtain ⟨_, _, _, q3, _⟩ := okAt_parts (chk_at h hd)
  rw [take_snoc hc, lastC_snoc] at q3
  omega
theorem chk_times {key firm : Int} {xs : List Cl} (h : chkF key firm xs = true) (i : Nat) : ∀ (n : Nat) (c d : Cl), xs[i]? = some c → xs[i + n]? = some d → c.time ≤ d.time := by
  intro n
  induction n with
  | zero => intro c d hc hd; rw [Nat.add_zero, hc] at hd; injection hd with hd; rw [hd]; exact Int.le_refl _
  | succ n ih =>
    intro c d hc hd
    have hl := (List.getElem?_eq_some_iff.1 hd).1
    have he : xs[i + n]? = some (xs[i + n]'(by omega)) := List.getElem?_eq_getElem _
    exact Int.le_trans (ih c _ hc he) (chk_time h (i + n) _ d he hd)
theorem chk_firm {key firm : Int} {xs : List Cl} (h : chkF key firm xs = true) {c : Cl} (hc : c ∈ xs) : c.firm = firm := by
  obtain ⟨j, hj⟩ := List.getElem?_of_mem hc
  exact (okAt_parts (chk_at h hj)).2.1
theorem chk_seq {key firm : Int} {xs : List Cl} {k : Nat} {c : Cl} (h : chkF key firm xs = true) (hx : xs[k]? = some c) : c.seq = (k : Int) + 1 := by
  have hk := (List.getElem?_eq_some_iff.1 hx).1
  obtain ⟨_, _, q2, _⟩ := okAt_parts (chk_at h hx)
  rw [q2, List.length_take]; congr 1; omega
theorem chk_srt {key firm : Int} {xs : List Cl} (h : chkF key firm xs = true) : srt xs := by
  unfold srt
  rw [List.pairwise_iff_getElem]
  intro i j hi hj hij
  have hci := List.getElem?_eq_getElem hi
  have hcj := List.getElem?_eq_getElem hj
  have h1 := chk_times h i (j - i) _ _ hci (by rw [show i + (j - i) = j by omega]; exact hcj)
  have h2 := chk_firm h (List.getElem_mem hi)
  have h3 := chk_firm h (List.getElem_mem hj)
  have h4 := chk_seq h hci
  have h5 := chk_seq h hcj
  rw [ltC_not]
  omega
/-- How many claims of a firm are ahead. -/
def cntF (O : List Cl) (i : Nat) (f : Int) : Nat := ((O.take i).filter fun c => c.firm == f).length
theorem cntF_hit {O : List Cl} {i : Nat} {c : Cl} (h : O[i]? = some c) : cntF O (i + 1) c.firm = cntF O i c.firm + 1 := by
  unfold cntF
  rw [take_snoc h, List.filter_append, List.length_append]
  simp
theorem cntF_miss {O : List Cl} {i : Nat} {c : Cl} {f : Int} (h : O[i]? = some c) (hf : c.firm ≠ f) : cntF O (i + 1) f = cntF O i f := by
  unfold cntF
  rw [take_snoc h, List.filter_append, List.length_append]
  simp [hf]
theorem cntF_at {O : List Cl} {i : Nat} {c : Cl} (h : O[i]? = some c) : (O.filter fun d => d.firm == c.firm)[cntF O i c.firm]? = some c := by
  have hi := (List.getElem?_eq_some_iff.1 h).1
  have e : O = O.take i ++ c :: O.drop (i + 1) := by
    conv => lhs; rw [← List.take_append_drop i O]
    rw [List.drop_eq_getElem_cons hi, (List.getElem?_eq_some_iff.1 h).2]
  have e2 : (O.filter fun d => d.firm == c.firm) = ((O.take i).filter fun d => d.firm == c.firm) ++ c :: ((O.drop (i + 1)).filter fun d => d.firm == c.firm) := by
    conv => lhs; rw [e]
    rw [List.filter_append, List.filter_cons]
    simp
  rw [e2]
  exact get_mid _ _ c _ rfl
theorem three_of {xss : List (List Cl)} (h : xss.length = 3) : ∃ x0 x1 x2, xss = [x0, x1, x2] := by
  rcases xss with _ | ⟨x0, _ | ⟨x1, _ | ⟨x2, _ | ⟨x3, r⟩⟩⟩⟩ <;> simp at h
  exact ⟨x0, x1, x2, rfl⟩
theorem chn_firm {xss : List (List Cl)} (h : ChnP xss) {k : Nat} {xs : List Cl} (hx : xss[k]? = some xs) : ∀ c ∈ xs, c.firm = (k : Int) := fun _ hc => chk_firm (h k xs hx).1.1 hc
/-- Those of one firm, in the order of all claims, are its chain. -/
theorem order_firm {xss : List (List Cl)} (h : ChnP xss) (hl : xss.length = 3) {k : Nat} {xs : List Cl} (hx : xss[k]? = some xs) : (insF xss.flatten).filter (fun d => d.firm == (k : Int)) = xs := by
  obtain ⟨x0, x1, x2, rfl⟩ := three_of hl
  have f0 := chn_firm h (k := 0) rfl
  have f1 := chn_firm h (k := 1) rfl
  have f2 := chn_firm h (k := 2) rfl
  have keep : ∀ (l : List Cl) (f : Int), (∀ c ∈ l, c.firm = f) → l.filter (fun d => d.firm == f) = l := fun l f hf => List.filter_eq_self.2 (fun c hc => by simp [hf c hc])
  have drop : ∀ (l : List Cl) (f g : Int), f ≠ g → (∀ c ∈ l, c.firm = f) → l.filter (fun d => d.firm == g) = [] := fun l f g hn hf => List.filter_eq_nil_iff.2 (fun c hc => by simp [hf c hc, hn])
  have hs := chk_srt (h k xs hx).1.1
  rw [insF_filter]
  have e : ([x0, x1, x2].flatten).filter (fun d => d.firm == (k : Int)) = xs := by
    simp only [List.flatten_cons, List.flatten_nil, List.append_nil, List.filter_append]
    rcases k with _ | _ | _ | k
    · simp only [List.getElem?_cons_zero, Option.some.injEq] at hx
      subst hx
      rw [keep _ _ f0, drop _ _ _ (by decide) f1, drop _ _ _ (by decide) f2]; simp
    · simp only [List.getElem?_cons_succ, List.getElem?_cons_zero, Option.some.injEq] at hx
      subst hx
      rw [drop _ _ _ (by decide) f0, keep _ _ f1, drop _ _ _ (by decide) f2]; simp
    · simp only [List.getElem?_cons_succ, List.getElem?_cons_zero, Option.some.injEq] at hx
      subst hx
      rw [drop _ _ _ (by decide) f0, drop _ _ _ (by decide) f1, keep _ _ f2]; simp
    · simp at hx
  rw [e, insF_sorted hs]
theorem order_in {xss : List (List Cl)} (h : ChnP xss) (hl : xss.length = 3) {c : Cl} (hc : c ∈ insF xss.flatten) : ∃ k : Nat, k < 3 ∧ c.firm = (k : Int) ∧ ∃ xs, xss[k]? = some xs := by
  have h1 := insF_mem hc
  obtain ⟨xs, hx, hcx⟩ := List.mem_flatten.1 h1
  obtain ⟨k, hk⟩ := List.getElem?_of_mem hx
  exact ⟨k, by have := (List.getElem?_eq_some_iff.1 hk).1; omega, chn_firm h hk c hcx, xs, hk⟩
theorem order_turn {x0 x1 x2 : List Cl} (h : ChnP [x0, x1, x2]) : insF [x2, [], x0, x1].flatten = insF [x0, x1, x2].flatten := by
  have f0 := chn_firm h (k := 0) rfl
  have f1 := chn_firm h (k := 1) rfl
  have f2 := chn_firm h (k := 2) rfl
  have := insF_turn (x0 ++ x1) x2 (fun a ha b hb => by
    rw [f2 b hb]
    rcases List.mem_append.1 ha with ha | ha
    · rw [f0 a ha]; decide
    · rw [f1 a ha]; decide)
  simp only [List.flatten_cons, List.flatten_nil, List.append_nil, List.nil_append]
  rw [List.append_assoc] at this
  rw [this]
end Go.Proofs.Ythpbjceajnaokaa
