/- Digests tell lists apart that differ in one word; a right chain that is damaged is right no more. No condition. -/
import Derived.Test.YthpbjceajnaokaaPln
import Derived.Test.YthpbjceajnaokaaChg
import Derived.Laws.Bits64
namespace Go.Proofs.Ythpbjceajnaokaa
open Go.RowKit

theorem mul_inj (C D x y : Nat) (h1 : C * D % 18446744073709551616 = 1) (hx : x < 18446744073709551616) (hy : y < 18446744073709551616) (h : x * C % 18446744073709551616 = y * C % 18446744073709551616) : x = y := by
  have e : ∀ z : Nat, z < 18446744073709551616 → (z * C % 18446744073709551616) * D % 18446744073709551616 = z := by
    intro z hz
    rw [Nat.mod_mul_mod, Nat.mul_assoc, ← Nat.mul_mod_mod, h1, Nat.mul_one, Nat.mod_eq_of_lt hz]
  rw [← e x hx, ← e y hy, h]
theorem shift_back (z s : Nat) (hz : z < 2 ^ (s + s + s)) : (z ^^^ z >>> s) ^^^ (z ^^^ z >>> s) >>> s ^^^ (z ^^^ z >>> s) >>> (s + s) = z := by
  rw [Nat.shiftRight_xor_distrib, Nat.shiftRight_xor_distrib, ← Nat.shiftRight_add, ← Nat.shiftRight_add, show s + (s + s) = s + s + s by omega]
  have h0 : z >>> (s + s + s) = 0 := by rw [Nat.shiftRight_eq_div_pow]; exact Nat.div_eq_of_lt hz
  rw [h0, Nat.xor_zero]
  apply Nat.eq_of_testBit_eq
  intro i
  simp only [Nat.testBit_xor]
  cases z.testBit i <;> cases (z >>> s).testBit i <;> cases (z >>> (s + s)).testBit i <;> rfl
theorem shift_inj (s x y : Nat) (hx : x < 2 ^ (s + s + s)) (hy : y < 2 ^ (s + s + s)) (h : x ^^^ x / 2 ^ s = y ^^^ y / 2 ^ s) : x = y := by
  rw [← Nat.shiftRight_eq_div_pow, ← Nat.shiftRight_eq_div_pow] at h
  rw [← shift_back x s hx, ← shift_back y s hy, h]
theorem xor_inj (a b c : Nat) (h : a ^^^ b = a ^^^ c) : b = c := by
  have h1 : a ^^^ (a ^^^ b) = a ^^^ (a ^^^ c) := by rw [h]
  rwa [← Nat.xor_assoc, ← Nat.xor_assoc, Nat.xor_self, Nat.zero_xor, Nat.zero_xor] at h1
/-- What a step makes of two words that were mixed. -/
def mixN (x : Nat) : Nat :=
  (((x * 11400714819323198485 % 18446744073709551616) ^^^ (x * 11400714819323198485 % 18446744073709551616) / 2 ^ 29) * 13787848793156543929 % 18446744073709551616) ^^^ (((x * 11400714819323198485 % 18446744073709551616) ^^^ (x * 11400714819323198485 % 18446744073709551616) / 2 ^ 29) * 13787848793156543929 % 18446744073709551616) / 2 ^ 32
theorem xor_lt64 {a b : Nat} (ha : a < 18446744073709551616) (hb : b < 18446744073709551616) : a ^^^ b < 18446744073709551616 := Nat.xor_lt_two_pow (n := 64) ha hb
theorem mixN_inj (x y : Nat) (hx : x < 18446744073709551616) (hy : y < 18446744073709551616) (h : mixN x = mixN y) : x = y := by
  unfold mixN at h
  have l1 : ∀ z : Nat, z % 18446744073709551616 < 18446744073709551616 := fun z => Nat.mod_lt _ (by omega)
  have l2 : ∀ z : Nat, (z % 18446744073709551616) ^^^ (z % 18446744073709551616) / 2 ^ 29 < 18446744073709551616 := fun z => xor_lt64 (l1 z) (Nat.lt_of_le_of_lt (Nat.div_le_self _ _) (l1 z))
  have h1 := shift_inj 32 _ _ (Nat.lt_of_lt_of_le (l1 _) (by decide)) (Nat.lt_of_lt_of_le (l1 _) (by decide)) h
  have h2 := mul_inj 13787848793156543929 10871156337175269513 _ _ (by decide) (l2 _) (l2 _) h1
  have h3 := shift_inj 29 _ _ (Nat.lt_of_lt_of_le (l1 _) (by decide)) (Nat.lt_of_lt_of_le (l1 _) (by decide)) h2
  exact mul_inj 11400714819323198485 17428512612931826493 _ _ (by decide) hx hy h3
theorem stp_nat (a b : Nat) (ha : a < 18446744073709551616) (hb : b < 18446744073709551616) : stp (a : Int) (b : Int) = ((mixN (a ^^^ b) : Nat) : Int) := by
  unfold stp mixN
  rw [bits_xor_u64_nat a b ha hb]
  have e0 : IntKind.u64.wrap (((a ^^^ b : Nat) : Int) * 11400714819323198485) = (((a ^^^ b) * 11400714819323198485 % 18446744073709551616 : Nat) : Int) := by
    rw [IntKind.wrap_u64, Int.natCast_emod, Int.natCast_mul]; rfl
  rw [e0]
  obtain ⟨z, hz⟩ : ∃ z, z = (a ^^^ b) * 11400714819323198485 % 18446744073709551616 := ⟨_, rfl⟩
  have hzl : z < 18446744073709551616 := by rw [hz]; exact Nat.mod_lt _ (by omega)
  rw [← hz]
  have e1 := mixStep_u64 z 536870912 13787848793156543929 hzl
  rw [show ((536870912 : Nat) : Int) = 536870912 from rfl, show ((13787848793156543929 : Nat) : Int) = 13787848793156543929 from rfl] at e1
  rw [e1]
  have e2 := xorShift_u64 ((z ^^^ z / 536870912) * 13787848793156543929 % 18446744073709551616) 4294967296 (Nat.mod_lt _ (by omega))
  rw [show ((4294967296 : Nat) : Int) = 4294967296 from rfl] at e2
  rw [e2]
/-- A 64-bit word. -/
def W64 (x : Int) : Prop := 0 ≤ x ∧ x < 18446744073709551616
theorem W64.nat {x : Int} (h : W64 x) : ∃ n : Nat, x = (n : Int) ∧ n < 18446744073709551616 := ⟨x.toNat, by have := h.1; omega, by have := h.1; have := h.2; omega⟩
theorem W64.wrap (x : Int) : W64 (IntKind.u64.wrap x) := u64_wrap_bd x
theorem W64.stp (a b : Int) : W64 (stp a b) := stp_bd a b
theorem stp_right {a b c : Int} (ha : W64 a) (hb : W64 b) (hc : W64 c) (h : Ythpbjceajnaokaa.stp a b = Ythpbjceajnaokaa.stp a c) : b = c := by
  obtain ⟨a, rfl, ka⟩ := ha.nat
  obtain ⟨b, rfl, kb⟩ := hb.nat
  obtain ⟨c, rfl, kc⟩ := hc.nat
  rw [stp_nat a b ka kb, stp_nat a c ka kc] at h
  have := xor_inj a b c (mixN_inj _ _ (xor_lt64 ka kb) (xor_lt64 ka kc) (by omega))
  rw [this]
theorem stp_left {a b c : Int} (ha : W64 a) (hb : W64 b) (hc : W64 c) (h : Ythpbjceajnaokaa.stp b a = Ythpbjceajnaokaa.stp c a) : b = c := by
  obtain ⟨a, rfl, ka⟩ := ha.nat
  obtain ⟨b, rfl, kb⟩ := hb.nat
  obtain ⟨c, rfl, kc⟩ := hc.nat
  rw [stp_nat b a kb ka, stp_nat c a kc ka] at h
  have h1 := mixN_inj _ _ (xor_lt64 kb ka) (xor_lt64 kc ka) (by omega)
  rw [Nat.xor_comm b, Nat.xor_comm c] at h1
  rw [xor_inj a b c h1]
theorem W64.from {h : Int} (hh : W64 h) (l : List Int) : W64 (wordsFrom h l) := by
  induction l generalizing h with
  | nil => exact hh
  | cons x r ih => exact ih (W64.stp _ _)
theorem from_inj (l : List Int) : ∀ {g h : Int}, W64 g → W64 h → wordsFrom g l = wordsFrom h l → g = h := by
  induction l with
  | nil => intro g h _ _ e; exact e
  | cons x r ih =>
    intro g h hg hh e
    exact stp_left (W64.wrap x) hg hh (ih (W64.stp _ _) (W64.stp _ _) e)
/-- Two lists that differ in one word have different digests. -/
theorem words_one (p q : List Int) (x y : Int) (h : IntKind.u64.wrap x ≠ IntKind.u64.wrap y) : words (p ++ x :: q) ≠ words (p ++ y :: q) := by
  unfold words
  intro e
  have hl : (p ++ x :: q).length = (p ++ y :: q).length := by simp
  rw [hl] at e
  obtain ⟨g, hg⟩ : ∃ g, g = Ythpbjceajnaokaa.stp 2611923443488327891 (((p ++ y :: q).length : Nat) : Int) := ⟨_, rfl⟩
  have hw : W64 g := by rw [hg]; exact W64.stp _ _
  rw [← hg] at e
  have e1 : ∀ z : Int, wordsFrom g (p ++ z :: q) = wordsFrom (Ythpbjceajnaokaa.stp (wordsFrom g p) (IntKind.u64.wrap z)) q := by
    intro z
    simp [wordsFrom, List.foldl_append]
  rw [e1, e1] at e
  exact h (stp_right (W64.from hw p) (W64.wrap _) (W64.wrap _) (from_inj q (W64.stp _ _) (W64.stp _ _) e))
theorem join_right {k a b : Int} (ha : W64 a) (hb : W64 b) (h : joinD k a = joinD k b) : a = b := stp_right (W64.stp _ _) ha hb h
theorem join_left {k l a : Int} (hk : W64 k) (hl : W64 l) (ha : W64 a) (h : joinD k a = joinD l a) : k = l :=
  stp_right ⟨by decide, by decide⟩ hk hl (stp_left ha (W64.stp _ _) (W64.stp _ _) h)
theorem W64.dig (c : Cl) : W64 (digC c) := digC_bd c
theorem wrap_wrap64 (x : Int) : IntKind.u64.wrap (wrap64 x) = IntKind.u64.wrap x := by
  rw [IntKind.wrap_u64, IntKind.wrap_u64]; unfold wrap64; omega
theorem wrap_W64 {x : Int} (h : W64 x) : IntKind.u64.wrap x = x := by
  rw [IntKind.wrap_u64]; have := h.1; have := h.2; omega

theorem i64_moved {x n : Int} (hn : -9223372036854775808 ≤ n ∧ n ≤ 9223372036854775807) (h0 : n ≠ 0) : IntKind.u64.wrap (wrap64 (x + n)) ≠ IntKind.u64.wrap x := by
  rw [IntKind.wrap_u64, IntKind.wrap_u64]; unfold wrap64; omega
theorem i64_moved' {x n : Int} (hn : -9223372036854775808 ≤ n ∧ n ≤ 9223372036854775807) (h0 : n ≠ 0) : wrap64 (x + n) ≠ x := by
  unfold wrap64; omega
theorem u64_moved {x n : Int} (hx : W64 x) (hn : -9223372036854775808 ≤ n ∧ n ≤ 9223372036854775807) (h0 : n ≠ 0) : IntKind.u64.wrap (x + IntKind.u64.wrap n) ≠ x := by
  rw [IntKind.wrap_u64, IntKind.wrap_u64]; have := hx.1; have := hx.2; omega
theorem tag_moved {key firm : Int} {p : List Cl} {c d : Cl} (hc : c.tag = tagC key c) (ht : d.tag = c.tag) (hd : digC d ≠ digC c) : okAt key firm p d = false := by
  refine okAt_5 ?_
  rw [bne_iff_ne, ht, hc]
  intro e
  exact hd (join_right (W64.dig _) (W64.dig _) e).symm
/-- A right chain with one field of one claim changed is not right. -/
theorem damage_field {key firm r n : Int} {xs : List Cl} {k : Nat} {c : Cl} (h : chkF key firm xs = true) (hx : xs[k]? = some c) (hn : -9223372036854775808 ≤ n ∧ n ≤ 9223372036854775807) (h0 : n ≠ 0)
    (hr : W64 c.ref) (ha : W64 c.aux) (hp : W64 c.prev) (ht : W64 c.tag) : chkF key firm (xs.set k (chgF c r n)) = false := by
  have hk := (List.getElem?_eq_some_iff.1 hx).1
  have hok := chk_at h hx
  obtain ⟨q0, q1, q2, q3, q4, q5, q6⟩ := okAt_parts hok
  obtain ⟨b0, b1, b2, b3, b4, b5, b6, b7, b8, b9⟩ := (okF_iff c).1 q0
  refine chk_bad (k := k) (c := chgF c r n) (List.getElem?_set_self hk) ?_
  rw [List.take_set_of_le (Nat.le_refl k)]
  have d1 : ∀ d : Cl, digC d = words [d.firm, d.seq, d.time, d.kind, d.a, wrap64 d.ref, wrap64 d.aux, wrap64 d.prev] := fun d => rfl
  unfold chgF
  split
  · exact okAt_1 (by rw [bne_iff_ne, ← q1]; exact i64_moved' hn h0)
  split
  · refine okAt_2 (k := k) (by rw [List.length_take]; omega) ?_
    rw [bne_iff_ne]
    have e : c.seq = (k : Int) + 1 := by rw [q2, List.length_take]; congr 1; omega
    rw [← e]
    exact i64_moved' hn h0
  split
  · exact tag_moved q5 rfl (by rw [d1, d1]; exact words_one [c.firm, c.seq] _ _ _ (i64_moved hn h0))
  split
  · exact tag_moved q5 rfl (by rw [d1, d1]; exact words_one [c.firm, c.seq, c.time] _ _ _ (i64_moved hn h0))
  split
  · exact tag_moved q5 rfl (by rw [d1, d1]; exact words_one [c.firm, c.seq, c.time, c.kind] _ _ _ (i64_moved hn h0))
  split
  · exact tag_moved q5 rfl (by rw [d1, d1]; exact words_one [c.firm, c.seq, c.time, c.kind, c.a] _ _ _ (by rw [wrap_wrap64, wrap_wrap64, wrap_W64 (W64.wrap _), wrap_W64 hr]; exact u64_moved hr hn h0))
  split
  · exact tag_moved q5 rfl (by rw [d1, d1]; exact words_one [c.firm, c.seq, c.time, c.kind, c.a, wrap64 c.ref] _ _ _ (by rw [wrap_wrap64, wrap_wrap64, wrap_W64 (W64.wrap _), wrap_W64 ha]; exact u64_moved ha hn h0))
  split
  · exact okAt_4 (by rw [bne_iff_ne, ← q4]; exact u64_moved hp hn h0)
  · refine okAt_5 ?_
    rw [bne_iff_ne]
    have e : tagC key { c with tag := IntKind.u64.wrap (c.tag + IntKind.u64.wrap n) } = c.tag := by rw [q5]; rfl
    rw [e]
    exact u64_moved ht hn h0
theorem damage_firm {key firm f' : Int} {xs : List Cl} (h : chkF key firm xs = true) (hl : 0 < xs.length) (hf : firm ≠ f') : chkF key f' xs = false := by
  have hx := List.getElem?_eq_getElem hl
  obtain ⟨_, q1, _⟩ := okAt_parts (chk_at h hx)
  exact chk_bad hx (okAt_1 (by rw [bne_iff_ne, q1]; exact hf))
theorem damage_key {key key' firm : Int} {xs : List Cl} (h : chkF key firm xs = true) (hl : 0 < xs.length) (hk : key ≠ key') (w1 : W64 key) (w2 : W64 key') : chkF key' firm xs = false := by
  have hx := List.getElem?_eq_getElem hl
  obtain ⟨_, _, _, _, _, q5, _⟩ := okAt_parts (chk_at h hx)
  exact chk_bad hx (okAt_5 (by rw [bne_iff_ne, q5]; exact fun e => hk (join_left w1 w2 (W64.dig _) e)))
theorem bad_seq {key firm : Int} {xs : List Cl} {k : Nat} {c : Cl} (hx : xs[k]? = some c) (h : c.seq ≠ (k : Int) + 1) : chkF key firm xs = false := by
  have hk := (List.getElem?_eq_some_iff.1 hx).1
  exact chk_bad hx (okAt_2 (k := k) (by rw [List.length_take]; omega) (by rwa [bne_iff_ne]))
theorem good_seq {key firm : Int} {xs : List Cl} {k : Nat} {c : Cl} (h : chkF key firm xs = true) (hx : xs[k]? = some c) : c.seq = (k : Int) + 1 := by
  have hk := (List.getElem?_eq_some_iff.1 hx).1
  obtain ⟨_, _, q2, _⟩ := okAt_parts (chk_at h hx)
  rw [q2, List.length_take]; congr 1; omega
theorem damage_less {key firm : Int} {xs : List Cl} {k : Nat} (h : chkF key firm xs = true) (hk : k + 1 < xs.length) : chkF key firm (xs.take k ++ xs.drop (k + 1)) = false := by
  have hx := List.getElem?_eq_getElem hk
  refine bad_seq (k := k) (c := xs[k + 1]) ?_ (by rw [good_seq h hx]; omega)
  rw [List.getElem?_append_right (by rw [List.length_take]; omega), List.length_take, List.getElem?_drop, show k + 1 + (k - min k xs.length) = k + 1 by omega]
  exact hx
theorem damage_turned {key firm : Int} {xs : List Cl} {k : Nat} {c d : Cl} (h : chkF key firm xs = true) (hk : k + 1 < xs.length) (hd : xs[k + 1]? = some d) : chkF key firm ((xs.set k d).set (k + 1) c) = false := by
  refine bad_seq (k := k) (c := d) ?_ (by rw [good_seq h hd]; omega)
  rw [List.getElem?_set_ne (by omega), List.getElem?_set_self (by omega)]
end Go.Proofs.Ythpbjceajnaokaa
