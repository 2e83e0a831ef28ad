/- The law's table of six by six, and its input, as they lie. No condition. -/
import Derived.Test.YthhfakkfdohcpaaGreatM31
import Derived.Test.YthhfakkfdohcpaaGreatM33
import Derived.Test.YthhfakkfdohcpaaGreatM17
namespace Go.Proofs.YthhfakkfdohcpaaGreat
open Go.RowKit Go.ChangeMaps Go.MapKept
/-- The table as it lies. -/
def matL (M : Nat → Nat → Bool) : List Value := (List.range 36).map fun k => .bool (M (k / 6) (k % 6))
def rowL (M : Nat → Nat → Bool) (a : Nat) : List Value := (List.range 6).map fun b => .bool (M a b)
theorem matL_len (M : Nat → Nat → Bool) : (matL M).length = 36 := by simp [matL]
theorem rowL_len (M : Nat → Nat → Bool) (a : Nat) : (rowL M a).length = 6 := by simp [rowL]
theorem matL_get (M : Nat → Nat → Bool) {a b : Nat} (ha : a < 6) (hb : b < 6) : (matL M)[a * 6 + b]? = some (.bool (M a b)) := by
  unfold matL
  rw [List.getElem?_map, List.getElem?_range (by omega), Option.map_some]
  show some (Value.bool (M ((a * 6 + b) / 6) ((a * 6 + b) % 6))) = _
  rw [show (a * 6 + b) / 6 = a by omega, show (a * 6 + b) % 6 = b by omega]
theorem rowL_get (M : Nat → Nat → Bool) (a : Nat) {b : Nat} (hb : b < 6) : (rowL M a)[b]? = some (.bool (M a b)) := by
  unfold rowL
  rw [List.getElem?_map, List.getElem?_range hb]
  rfl
def updM (M : Nat → Nat → Bool) (a b : Nat) (v : Bool) : Nat → Nat → Bool := fun i j => if i = a ∧ j = b then v else M i j
theorem matL_set (M : Nat → Nat → Bool) {a b : Nat} (_ha : a < 6) (hb : b < 6) (v : Bool) : (matL M).set (a * 6 + b) (.bool v) = matL (updM M a b v) := by
  apply List.ext_getElem?
  intro i
  by_cases hi : i < 36
  · have e1 : (matL (updM M a b v))[i]? = some (.bool (updM M a b v (i / 6) (i % 6))) := by
      unfold matL
      rw [List.getElem?_map, List.getElem?_range hi]
      rfl
    have e2 : (matL M)[i]? = some (.bool (M (i / 6) (i % 6))) := by
      unfold matL
      rw [List.getElem?_map, List.getElem?_range hi]
      rfl
    rw [e1, List.getElem?_set]
    by_cases h : a * 6 + b = i
    · rw [if_pos h, if_pos (by rw [matL_len]; omega)]
      unfold updM
      rw [if_pos (by omega)]
    · rw [if_neg h, e2]
      unfold updM
      rw [if_neg (by omega)]
  · rw [List.getElem?_eq_none (by rw [List.length_set, matL_len]; omega), List.getElem?_eq_none (by rw [matL_len]; omega)]
theorem rowL_set (M : Nat → Nat → Bool) (a : Nat) {b : Nat} (hb : b < 6) (v : Bool) : (rowL M a).set b (.bool v) = rowL (updM M a b v) a := by
  apply List.ext_getElem?
  intro i
  by_cases hi : i < 6
  · rw [rowL_get _ _ hi, List.getElem?_set]
    by_cases h : b = i
    · rw [if_pos h, if_pos (by rw [rowL_len]; omega)]
      unfold updM
      rw [if_pos (by omega)]
    · rw [if_neg h, rowL_get _ _ hi]
      unfold updM
      rw [if_neg (by omega)]
  · rw [List.getElem?_eq_none (by rw [List.length_set, rowL_len]; omega), List.getElem?_eq_none (by rw [rowL_len]; omega)]
theorem matL_row (M : Nat → Nat → Bool) {a : Nat} (ha : a < 6) : ((matL M).drop (a * 6)).take (rowL M a).length = rowL M a := by
  apply List.ext_getElem?
  intro i
  rw [rowL_len, List.getElem?_take]
  by_cases hi : i < 6
  · rw [if_pos hi, List.getElem?_drop, matL_get _ ha hi, rowL_get _ _ hi]
  · rw [if_neg hi, List.getElem?_eq_none (by rw [rowL_len]; omega)]
/-- A row put back into the table. -/
theorem matL_put (M : Nat → Nat → Bool) {a b : Nat} (ha : a < 6) (hb : b < 6) (v : Bool) : matL (updM M a b v) = (matL M).take (a * 6) ++ rowL (updM M a b v) a ++ (matL M).drop (a * 6 + (rowL (updM M a b v) a).length) := by
  apply List.ext_getElem?
  intro i
  have hl : ((matL M).take (a * 6)).length = a * 6 := by rw [List.length_take, matL_len]; omega
  rw [rowL_len]
  by_cases h1 : i < a * 6
  · rw [List.append_assoc, List.getElem?_append_left (by omega), List.getElem?_take, if_pos h1]
    have : i < 36 := by omega
    unfold matL
    rw [List.getElem?_map, List.getElem?_map, List.getElem?_range this]
    unfold updM
    simp only [Option.map_some]
    rw [if_neg (by omega)]
  · by_cases h2 : i < a * 6 + 6
    · rw [List.append_assoc, List.getElem?_append_right (by omega), hl, List.getElem?_append_left (by rw [rowL_len]; omega), rowL_get _ _ (by omega)]
      have := matL_get (updM M a b v) ha (show i - a * 6 < 6 by omega)
      rw [show a * 6 + (i - a * 6) = i by omega] at this
      exact this
    · rw [List.getElem?_append_right (by rw [List.length_append, hl, rowL_len]; omega), List.length_append, hl, rowL_len, List.getElem?_drop, show a * 6 + 6 + (i - (a * 6 + 6)) = i by omega]
      by_cases h3 : i < 36
      · unfold matL
        rw [List.getElem?_map, List.getElem?_map, List.getElem?_range h3]
        unfold updM
        simp only [Option.map_some]
        rw [if_neg (by omega)]
      · rw [List.getElem?_eq_none (by rw [matL_len]; omega), List.getElem?_eq_none (by rw [matL_len]; omega)]
theorem rowL_one {M : Nat → Nat → Bool} {a : Nat} : ∀ u ∈ rowL M a, u.oneCell' = true := by
  intro u hu
  simp only [rowL, List.mem_map] at hu
  obtain ⟨k, -, rfl⟩ := hu
  rfl
theorem matL_one {M : Nat → Nat → Bool} : ∀ u ∈ matL M, u.oneCell' = true := by
  intro u hu
  simp only [matL, List.mem_map] at hu
  obtain ⟨k, -, rfl⟩ := hu
  rfl
/-- The bytes of the input. -/
def BytesAt (w : World) (B : Nat) (A : Option Addr) (n : Nat) : Prop :=
  0 < n → ∃ b off, A = some ⟨b, off, none⟩ ∧ b < B ∧ ∀ k, k < n → ∃ x y : Nat, w.cell? ⟨b, off + k * 2, none⟩ = some (.int .u8 x) ∧ w.cell? ⟨b, off + k * 2 + 1, none⟩ = some (.int .u8 y) ∧ x < 256 ∧ y < 256
/-- A pair of the law's. -/
def trN (a b s : Nat) : Tri := ((a : Int), (b : Int), (s : Int))
def Small (ps : List Tri) : Prop := ∀ x ∈ ps, ∃ a b s : Nat, x = trN a b s ∧ a < 6 ∧ b < 6
def Tells (M : Nat → Nat → Bool) (ps : List Tri) : Prop := ∀ a b : Nat, M a b = true ↔ ∃ s, ((a : Int), (b : Int), s) ∈ ps
theorem Small.snoc {ps : List Tri} {a b s : Nat} (h : Small ps) (ha : a < 6) (hb : b < 6) : Small (ps ++ [trN a b s]) := by
  intro x hx
  rcases List.mem_append.1 hx with hx | hx
  · exact h x hx
  · rw [List.mem_singleton] at hx
    exact ⟨a, b, s, hx, ha, hb⟩
theorem Tells.snoc {M : Nat → Nat → Bool} {ps : List Tri} {a b s : Nat} (h : Tells M ps) : Tells (updM M a b true) (ps ++ [trN a b s]) := by
  intro i j
  unfold updM
  by_cases e : i = a ∧ j = b
  · rw [if_pos e]
    obtain ⟨rfl, rfl⟩ := e
    simp only [true_iff]
    exact ⟨s, List.mem_append_right _ (by simp [trN])⟩
  · rw [if_neg e, h]
    constructor
    · rintro ⟨t, ht⟩
      exact ⟨t, List.mem_append_left _ ht⟩
    · rintro ⟨t, ht⟩
      rcases List.mem_append.1 ht with ht | ht
      · exact ⟨t, ht⟩
      · rw [List.mem_singleton] at ht
        simp only [trN, Prod.mk.injEq] at ht
        omega
end Go.Proofs.YthhfakkfdohcpaaGreat
/- The closure of a relation on six numbers, reckoned in place (plain Lean). Condition: none. -/
namespace Go.Proofs.YthhfakkfdohcpaaGreat

/-- One place of the table is reckoned. -/
def stepW (t : Nat → Nat → Bool) (k a b : Nat) : Nat → Nat → Bool := fun i j => if i = a ∧ j = b then t a b || (t a k && t k b) else t i j
def warB (t : Nat → Nat → Bool) (k a n : Nat) : Nat → Nat → Bool := (List.range n).foldl (fun t b => stepW t k a b) t
def warA (t : Nat → Nat → Bool) (k n : Nat) : Nat → Nat → Bool := (List.range n).foldl (fun t a => warB t k a 6) t
def warK (t : Nat → Nat → Bool) (n : Nat) : Nat → Nat → Bool := (List.range n).foldl (fun t k => warA t k 6) t

theorem warB_succ (t : Nat → Nat → Bool) (k a n : Nat) : warB t k a (n + 1) = stepW (warB t k a n) k a n := by
  unfold warB; rw [List.range_succ, List.foldl_append]; rfl
theorem warA_succ (t : Nat → Nat → Bool) (k n : Nat) : warA t k (n + 1) = warB (warA t k n) k n 6 := by
  unfold warA; rw [List.range_succ, List.foldl_append]; rfl
theorem warK_succ (t : Nat → Nat → Bool) (n : Nat) : warK t (n + 1) = warA (warK t n) n 6 := by
  unfold warK; rw [List.range_succ, List.foldl_append]; rfl

/-- A way of one step or more. -/
inductive WayN (E : Nat → Nat → Prop) : Nat → Nat → Prop
  | one {a b : Nat} : E a b → WayN E a b
  | join {a b c : Nat} : WayN E a b → WayN E b c → WayN E a c
/-- Such a way whose inner places are below K. -/
inductive WayIn (E : Nat → Nat → Prop) (K : Nat) : Nat → Nat → Prop
  | one {a b : Nat} : E a b → WayIn E K a b
  | cons {a b c : Nat} : E a b → b < K → WayIn E K b c → WayIn E K a c

def Le (t u : Nat → Nat → Bool) : Prop := ∀ i j, t i j = true → u i j = true
theorem Le.refl (t : Nat → Nat → Bool) : Le t t := fun _ _ h => h
theorem Le.trans {t u v : Nat → Nat → Bool} (h : Le t u) (h' : Le u v) : Le t v := fun i j x => h' i j (h i j x)
theorem stepW_le (t : Nat → Nat → Bool) (k a b : Nat) : Le t (stepW t k a b) := fun i j h => by
  unfold stepW
  split
  · rename_i e; obtain ⟨rfl, rfl⟩ := e; simp [h]
  · exact h
theorem warB_mono (t : Nat → Nat → Bool) (k a : Nat) {n m : Nat} (h : n ≤ m) : Le (warB t k a n) (warB t k a m) := by
  induction h with
  | refl => exact Le.refl _
  | step _ ih => rw [warB_succ]; exact ih.trans (stepW_le _ _ _ _)
theorem warB_le (t : Nat → Nat → Bool) (k a n : Nat) : Le t (warB t k a n) := (show Le (warB t k a 0) _ from warB_mono t k a (Nat.zero_le n))
theorem warA_mono (t : Nat → Nat → Bool) (k : Nat) {n m : Nat} (h : n ≤ m) : Le (warA t k n) (warA t k m) := by
  induction h with
  | refl => exact Le.refl _
  | step _ ih => rw [warA_succ]; exact ih.trans (warB_le _ _ _ _)
theorem warA_le (t : Nat → Nat → Bool) (k n : Nat) : Le t (warA t k n) := (show Le (warA t k 0) _ from warA_mono t k (Nat.zero_le n))
theorem warK_le (t : Nat → Nat → Bool) (n : Nat) : Le t (warK t n) := by
  induction n with
  | zero => exact Le.refl _
  | succ n ih => rw [warK_succ]; exact ih.trans (warA_le _ _ _)

/-- What is in the table is a way. -/
def Ways (E : Nat → Nat → Prop) (t : Nat → Nat → Bool) : Prop := ∀ i j, t i j = true → WayN E i j
theorem stepW_ways {E : Nat → Nat → Prop} {t : Nat → Nat → Bool} (h : Ways E t) (k a b : Nat) : Ways E (stepW t k a b) := fun i j x => by
  unfold stepW at x
  split at x
  · rename_i e
    obtain ⟨rfl, rfl⟩ := e
    simp only [Bool.or_eq_true, Bool.and_eq_true] at x
    rcases x with x | ⟨x, y⟩
    · exact h _ _ x
    · exact (h _ _ x).join (h _ _ y)
  · exact h _ _ x
theorem warB_ways {E : Nat → Nat → Prop} {t : Nat → Nat → Bool} (h : Ways E t) (k a n : Nat) : Ways E (warB t k a n) := by
  induction n with
  | zero => exact h
  | succ n ih => rw [warB_succ]; exact stepW_ways ih _ _ _
theorem warA_ways {E : Nat → Nat → Prop} {t : Nat → Nat → Bool} (h : Ways E t) (k n : Nat) : Ways E (warA t k n) := by
  induction n with
  | zero => exact h
  | succ n ih => rw [warA_succ]; exact warB_ways ih _ _ _
theorem warK_ways {E : Nat → Nat → Prop} {t : Nat → Nat → Bool} (h : Ways E t) (n : Nat) : Ways E (warK t n) := by
  induction n with
  | zero => exact h
  | succ n ih => rw [warK_succ]; exact warA_ways ih _ _

theorem WayIn.join {E : Nat → Nat → Prop} {K a b c : Nat} (h : WayIn E K a b) (hb : b < K) (h' : WayIn E K b c) : WayIn E K a c := by
  induction h with
  | one e => exact .cons e hb h'
  | cons e h1 _ ih => exact .cons e h1 (ih hb h')
theorem WayN.inside {E : Nat → Nat → Prop} {K a b : Nat} (hE : ∀ a b, E a b → a < K ∧ b < K) (h : WayN E a b) : WayIn E K a b ∧ a < K ∧ b < K := by
  induction h with
  | one e => exact ⟨.one e, hE _ _ e⟩
  | join _ _ i1 i2 => exact ⟨i1.1.join i1.2.2 i2.1, i1.2.1, i2.2.2⟩
theorem WayIn.way {E : Nat → Nat → Prop} {K a b : Nat} (h : WayIn E K a b) : WayN E a b := by
  induction h with
  | one e => exact .one e
  | cons e _ _ ih => exact .join (.one e) ih
theorem WayIn.split {E : Nat → Nat → Prop} {K a c : Nat} (h : WayIn E (K + 1) a c) : WayIn E K a c ∨ (WayIn E K a K ∧ WayIn E K K c) := by
  induction h with
  | one e => exact .inl (.one e)
  | @cons a b c e hb _ ih =>
    by_cases hk : b = K
    · subst hk
      rcases ih with i | ⟨_, i⟩
      · exact .inr ⟨.one e, i⟩
      · exact .inr ⟨.one e, i⟩
    · rcases ih with i | ⟨i, j⟩
      · exact .inl (.cons e (by omega) i)
      · exact .inr ⟨.cons e (by omega) i, j⟩

theorem warA_gets {t : Nat → Nat → Bool} {k i j : Nat} (hi : i < 6) (hj : j < 6) (h1 : t i k = true) (h2 : t k j = true) : warA t k 6 i j = true := by
  have g : Le t (warA t k i) := warA_le t k i
  have g2 : Le t (warB (warA t k i) k i j) := g.trans (warB_le _ _ _ _)
  have e : stepW (warB (warA t k i) k i j) k i j i j = true := by
    unfold stepW
    rw [if_pos ⟨rfl, rfl⟩]
    simp [g2 _ _ h1, g2 _ _ h2]
  rw [← warB_succ] at e
  have e2 := warB_mono (warA t k i) k i (show j + 1 ≤ 6 by omega) _ _ e
  rw [← warA_succ] at e2
  exact warA_mono t k (show i + 1 ≤ 6 by omega) _ _ e2
/-- THE CLOSURE: the table at the end says where there is a way. -/
theorem warK_is {E : Nat → Nat → Prop} {t : Nat → Nat → Bool} (ht : ∀ i j, t i j = true ↔ E i j) (hE : ∀ a b, E a b → a < 6 ∧ b < 6) (i j : Nat) : warK t 6 i j = true ↔ WayN E i j := by
  refine ⟨warK_ways (fun i j h => .one ((ht i j).1 h)) 6 i j, fun h => ?_⟩
  have all : ∀ n, ∀ i j, i < 6 → j < 6 → WayIn E n i j → warK t n i j = true := by
    intro n
    induction n with
    | zero =>
      intro i j _ _ h
      cases h with
      | one e => exact (ht i j).2 e
      | cons _ hb _ => exact absurd hb (Nat.not_lt_zero _)
    | succ n ih =>
      intro i j hi hj h
      rw [warK_succ]
      rcases h.split with h | ⟨h1, h2⟩
      · exact warA_le _ _ _ _ _ (ih i j hi hj h)
      · have hn : n < 6 := by
          cases h2 with
          | one e => exact (hE _ _ e).1
          | cons e _ _ => exact (hE _ _ e).1
        exact warA_gets hi hj (ih i n hi hn h1) (ih n j hn hj h2)
  obtain ⟨h1, hi, hj⟩ := h.inside hE
  exact all 6 i j hi hj h1
end Go.Proofs.YthhfakkfdohcpaaGreat
