/- Plain laws of a stable merge: parts that stand apart, order of insertion. No condition. -/
import Derived.Test.YthpbjceajnaokaaIns
namespace Go.Proofs.Ythpbjceajnaokaa
open Go.RowKit

theorem ltC_iff (c d : Cl) : ltC c d = true ↔ (c.time < d.time ∨ (c.time = d.time ∧ (c.firm < d.firm ∨ (c.firm = d.firm ∧ c.seq < d.seq)))) := by
  simp only [ltC, Bool.or_eq_true, Bool.and_eq_true, decide_eq_true_eq]
theorem ltC_not (c d : Cl) : ltC c d = false ↔ ¬ (c.time < d.time ∨ (c.time = d.time ∧ (c.firm < d.firm ∨ (c.firm = d.firm ∧ c.seq < d.seq)))) := by
  rw [← ltC_iff, Bool.not_eq_true]
theorem ltC_irr (c : Cl) : ltC c c = false := by rw [ltC_not]; omega
theorem ltC_asym {c d : Cl} (h : ltC c d = true) : ltC d c = false := by rw [ltC_not]; rw [ltC_iff] at h; omega
theorem leC_trans {c d e : Cl} (h1 : ltC d c = false) (h2 : ltC e d = false) : ltC e c = false := by rw [ltC_not] at *; omega
theorem lt_le {c d e : Cl} (h1 : ltC c d = true) (h2 : ltC e d = false) : ltC c e = true := by rw [ltC_iff] at *; rw [ltC_not] at h2; omega
theorem le_lt {c d e : Cl} (h1 : ltC d c = false) (h2 : ltC d e = true) : ltC c e = true := by rw [ltC_iff] at *; rw [ltC_not] at h1; omega
theorem ltC_trans {c d e : Cl} (h1 : ltC c d = true) (h2 : ltC d e = true) : ltC c e = true := by rw [ltC_iff] at *; omega

/-- Claims in order. -/
def srt (l : List Cl) : Prop := l.Pairwise fun x y => ltC y x = false

theorem pos_le (l : List Cl) (x : Cl) : ∀ j, pos l x j ≤ j
  | 0 => Nat.le_refl _
  | j + 1 => by
    unfold pos
    split
    · exact Nat.le_trans (pos_le l x j) (Nat.le_succ _)
    · exact Nat.le_refl _
theorem pos_append (l m : List Cl) (x : Cl) : ∀ j, j ≤ l.length → pos (l ++ m) x j = pos l x j
  | 0, _ => rfl
  | j + 1, h => by
    unfold pos
    rw [List.getElem?_append_left (by omega), pos_append l m x j (by omega)]
theorem putF_snoc (l : List Cl) (y x : Cl) : putF (l ++ [y]) x = if ltC x y then putF l x ++ [y] else l ++ [y, x] := by
  have h1 : (l ++ [y])[l.length]?.getD zeroC = y := by simp
  unfold putF
  rw [show (l ++ [y]).length = l.length + 1 by simp]
  show putAt (l ++ [y]) x (if ltC x ((l ++ [y])[l.length]?.getD zeroC) then pos (l ++ [y]) x l.length else l.length + 1) = _
  rw [h1]
  split
  · rw [pos_append l [y] x l.length (Nat.le_refl _)]
    have hp := pos_le l x l.length
    unfold putAt
    rw [List.take_append_of_le_length hp, List.drop_append_of_le_length hp]
    simp
  · have : putAt (l ++ [y]) x (l.length + 1) = (l ++ [y]) ++ [x] := by
      have := putAt_end (l ++ [y]) x
      rwa [show (l ++ [y]).length = l.length + 1 by simp] at this
    rw [this]; simp
theorem rev_ind {P : List Cl → Prop} (h0 : P []) (h1 : ∀ l y, P l → P (l ++ [y])) (l : List Cl) : P l := by
  rw [← List.reverse_reverse l]
  induction l.reverse with
  | nil => exact h0
  | cons y r ih => rw [List.reverse_cons]; exact h1 _ _ ih
theorem putF_split (x : Cl) (B : List Cl) : ∃ B1 B2, B = B1 ++ B2 ∧ putF B x = B1 ++ x :: B2 ∧ ∀ b ∈ B2, ltC x b = true := by
  refine rev_ind (P := fun B => ∃ B1 B2, B = B1 ++ B2 ∧ putF B x = B1 ++ x :: B2 ∧ ∀ b ∈ B2, ltC x b = true) ⟨[], [], rfl, rfl, by simp⟩ (fun l y ih => ?_) B
  rw [putF_snoc]
  rcases Bool.eq_false_or_eq_true (ltC x y) with h | h
  · obtain ⟨B1, B2, e1, e2, e3⟩ := ih
    refine ⟨B1, B2 ++ [y], by rw [e1]; simp, by rw [if_pos h, e2]; simp, fun b hb => ?_⟩
    rcases List.mem_append.1 hb with hb | hb
    · exact e3 b hb
    · simp only [List.mem_singleton] at hb; rw [hb]; exact h
  · exact ⟨l ++ [y], [], by simp, by rw [if_neg (by rw [h]; decide)]; simp, by simp⟩
theorem putF_mem {l : List Cl} {x c : Cl} (h : c ∈ putF l x) : c ∈ l ∨ c = x := by
  obtain ⟨B1, B2, e1, e2, _⟩ := putF_split x l
  rw [e2] at h
  rw [e1]
  simp only [List.mem_append, List.mem_cons] at h ⊢
  rcases h with h | h | h <;> simp [h]
theorem foldl_mem {xs : List Cl} : ∀ {l : List Cl} {c : Cl}, c ∈ xs.foldl putF l → c ∈ l ∨ c ∈ xs := by
  induction xs with
  | nil => intro l c h; exact .inl h
  | cons x r ih =>
    intro l c h
    rcases ih h with h | h
    · rcases putF_mem h with h | h
      · exact .inl h
      · exact .inr (by rw [h]; exact List.mem_cons_self ..)
    · exact .inr (List.mem_cons_of_mem _ h)
theorem putF_srt {l : List Cl} {x : Cl} : srt l → srt (putF l x) := by
  refine rev_ind (P := fun l => srt l → srt (putF l x)) (fun _ => by simp [putF, putAt, pos, srt]) (fun l y ih h => ?_) l
  unfold srt at h
  rw [List.pairwise_append] at h
  obtain ⟨h1, _, h3⟩ := h
  rw [putF_snoc]
  rcases Bool.eq_false_or_eq_true (ltC x y) with hxy | hxy
  · rw [if_pos hxy]
    unfold srt
    rw [List.pairwise_append]
    refine ⟨ih h1, by simp, fun a ha b hb => ?_⟩
    simp only [List.mem_singleton] at hb
    subst hb
    rcases putF_mem ha with ha | ha
    · exact h3 a ha b (by simp)
    · rw [ha]; exact ltC_asym hxy
  · rw [if_neg (by rw [hxy]; decide)]
    unfold srt
    rw [List.pairwise_append]
    refine ⟨h1, by simpa using hxy, fun a ha b hb => ?_⟩
    simp only [List.mem_cons, List.not_mem_nil, or_false] at hb
    have hay := h3 a ha y (by simp)
    rcases hb with rfl | rfl
    · exact hay
    · exact leC_trans hay hxy
theorem foldl_srt (xs : List Cl) : ∀ {l : List Cl}, srt l → srt (xs.foldl putF l) := by
  induction xs with
  | nil => intro l h; exact h
  | cons x r ih => intro l h; exact ih (putF_srt h)
theorem insF_srt (xs : List Cl) : srt (insF xs) := foldl_srt xs (l := []) List.Pairwise.nil

theorem putF_comm {x y : Cl} (h : ltC x y = true) (M : List Cl) : putF (putF M x) y = putF (putF M y) x := by
  refine rev_ind (P := fun M => putF (putF M x) y = putF (putF M y) x) ?_ (fun l z ih => ?_) M
  · have e1 : putF [x] y = [x, y] := by
      have := putF_snoc [] x y
      rw [List.nil_append, ltC_asym h] at this
      exact this
    have e2 : putF [y] x = [x, y] := by
      have := putF_snoc [] y x
      rw [List.nil_append, h] at this
      exact this
    rw [putF_nil, putF_nil, e1, e2]
  · rw [putF_snoc l z x, putF_snoc l z y]
    rcases Bool.eq_false_or_eq_true (ltC y z) with hy | hy
    · have hx := ltC_trans h hy
      rw [if_pos hx, if_pos hy, putF_snoc, putF_snoc, if_pos hx, if_pos hy, ih]
    · rw [if_neg (c := ltC y z = true) (by rw [hy]; decide)]
      rw [show l ++ [z, y] = (l ++ [z]) ++ [y] by simp, putF_snoc (l ++ [z]) y x, if_pos h, putF_snoc l z x]
      rcases Bool.eq_false_or_eq_true (ltC x z) with hx | hx
      · rw [if_pos hx, putF_snoc, if_neg (by rw [hy]; decide)]
        simp
      · rw [if_neg (by rw [hx]; decide), show l ++ [z, x] = (l ++ [z]) ++ [x] by simp, putF_snoc, if_neg (by rw [ltC_asym h]; decide)]
        simp
theorem foldl_later {x : Cl} (B : List Cl) : ∀ (M : List Cl), (∀ b ∈ B, ltC x b = true) → B.foldl putF (putF M x) = putF (B.foldl putF M) x := by
  induction B with
  | nil => intro M _; rfl
  | cons b r ih =>
    intro M h
    rw [List.foldl_cons, List.foldl_cons, putF_comm (h b (List.mem_cons_self ..)), ih _ (fun c hc => h c (List.mem_cons_of_mem _ hc))]
theorem foldl_put (L B : List Cl) (x : Cl) : (putF B x).foldl putF L = putF (B.foldl putF L) x := by
  obtain ⟨B1, B2, e1, e2, e3⟩ := putF_split x B
  rw [e2, e1, List.foldl_append, List.foldl_append, List.foldl_cons, foldl_later B2 _ e3]
/-- To insert a list that was put in order is to insert the list. -/
theorem foldl_insF (L B : List Cl) : (insF B).foldl putF L = B.foldl putF L := by
  refine rev_ind (P := fun B => (insF B).foldl putF L = B.foldl putF L) rfl (fun l y ih => ?_) B
  rw [insF_snoc, foldl_put, ih, List.foldl_append]
  rfl
theorem insF_parts (A B : List Cl) : insF (A ++ B) = (insF B).foldl putF (insF A) := by
  rw [foldl_insF, insF, List.foldl_append]; rfl

theorem putF_left {x : Cl} (l1 : List Cl) (l2 : List Cl) (h : ∀ y ∈ l2, ltC x y = true) : putF (l1 ++ l2) x = putF l1 x ++ l2 := by
  revert h
  refine rev_ind (P := fun l2 => (∀ y ∈ l2, ltC x y = true) → putF (l1 ++ l2) x = putF l1 x ++ l2) (by simp) (fun l y ih h => ?_) l2
  rw [← List.append_assoc, putF_snoc, if_pos (h y (by simp)), ih (fun z hz => h z (by simp [hz]))]
  simp
theorem putF_end {x : Cl} (l : List Cl) (h : ∀ y ∈ l, ltC x y = false) : putF l x = l ++ [x] := by
  revert h
  refine rev_ind (P := fun l => (∀ y ∈ l, ltC x y = false) → putF l x = l ++ [x]) (by simp [putF_nil]) (fun l y _ h => ?_) l
  rw [putF_snoc, if_neg (by rw [h y (by simp)]; decide)]
  simp
theorem putF_right {x : Cl} (l1 : List Cl) (l2 : List Cl) (h : ∀ y ∈ l1, ltC x y = false) : putF (l1 ++ l2) x = l1 ++ putF l2 x := by
  refine rev_ind (P := fun l2 => putF (l1 ++ l2) x = l1 ++ putF l2 x) (by rw [List.append_nil, putF_nil]; exact putF_end l1 h) (fun l y ih => ?_) l2
  rw [← List.append_assoc, putF_snoc, putF_snoc]
  split
  · rw [ih]; simp
  · simp
theorem foldl_left (R : List Cl) : ∀ (L1 L2 : List Cl), (∀ r ∈ R, ∀ y ∈ L2, ltC r y = true) → R.foldl putF (L1 ++ L2) = R.foldl putF L1 ++ L2 := by
  induction R with
  | nil => intro L1 L2 _; rfl
  | cons r R ih =>
    intro L1 L2 h
    rw [List.foldl_cons, putF_left L1 L2 (h r (List.mem_cons_self ..)), ih _ _ (fun c hc => h c (List.mem_cons_of_mem _ hc))]
    rfl
theorem foldl_right (R : List Cl) : ∀ (L1 L2 : List Cl), (∀ r ∈ R, ∀ y ∈ L1, ltC r y = false) → R.foldl putF (L1 ++ L2) = L1 ++ R.foldl putF L2 := by
  induction R with
  | nil => intro L1 L2 _; rfl
  | cons r R ih =>
    intro L1 L2 h
    rw [List.foldl_cons, putF_right L1 L2 (h r (List.mem_cons_self ..)), ih _ _ (fun c hc => h c (List.mem_cons_of_mem _ hc))]
    rfl
/-- Merging goes by parts that stand apart. -/
theorem merge_parts {L1 L2 R1 R2 : List Cl} (hR : srt (R1 ++ R2)) (h1 : ∀ r ∈ R1, ∀ y ∈ L2, ltC r y = true) (h2 : ∀ r ∈ R2, ∀ y ∈ L1, ltC r y = false) :
    (R1 ++ R2).foldl putF (L1 ++ L2) = R1.foldl putF L1 ++ R2.foldl putF L2 := by
  rw [List.foldl_append, foldl_left R1 L1 L2 h1]
  refine foldl_right R2 _ L2 fun r hr y hy => ?_
  unfold srt at hR
  rw [List.pairwise_append] at hR
  rcases foldl_mem hy with hy | hy
  · exact h2 r hr y hy
  · exact hR.2.2 y hy r hr
theorem foldl_sorted {l : List Cl} (xs : List Cl) : srt (l ++ xs) → xs.foldl putF l = l ++ xs := by
  induction xs generalizing l with
  | nil => intro _; simp
  | cons x r ih =>
    intro h
    have e : putF l x = l ++ [x] := by
      unfold srt at h
      rw [List.pairwise_append] at h
      exact putF_end l (fun y hy => h.2.2 y hy x (List.mem_cons_self ..))
    rw [List.foldl_cons, e, ih (by simpa using h)]
    simp
theorem set_mid (A B : List Cl) (x y : Cl) (k : Nat) (h : A.length = k) : (A ++ x :: B).set k y = A ++ y :: B := by
  subst h; simp
theorem get_mid (A B : List Cl) (x : Cl) (k : Nat) (h : A.length = k) : (A ++ x :: B)[k]? = some x := by
  subst h; simp
end Go.Proofs.Ythpbjceajnaokaa
