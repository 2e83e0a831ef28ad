/- append on chains of claims that a call has made itself; Clone. Conditions: at most 100000 claims. -/
import Derived.Test.YthpbjceajnaokaaMer
namespace Go.Proofs.Ythpbjceajnaokaa
open Go.RowKit

def flat (xs : List Cl) : List Value := xs.flatMap Cl.cells
theorem flat_nil : flat [] = [] := rfl
theorem flat_cons (x : Cl) (xs : List Cl) : flat (x :: xs) = x.cells ++ flat xs := rfl
theorem flat_append (xs ys : List Cl) : flat (xs ++ ys) = flat xs ++ flat ys := by simp [flat]
theorem flat_length (xs : List Cl) : (flat xs).length = xs.length * 9 := by
  induction xs with
  | nil => rfl
  | cons x xs ih => rw [flat_cons, List.length_append, ih]; simp [Cl.cells]; omega
theorem flat_one (xs : List Cl) : ∀ u ∈ flat xs, u.oneCell' = true := by
  intro u hu
  simp only [flat, List.mem_flatMap] at hu
  obtain ⟨c, _, hc⟩ := hu
  simp only [Cl.cells, List.mem_cons, List.not_mem_nil, or_false] at hc
  rcases hc with rfl | rfl | rfl | rfl | rfl | rfl | rfl | rfl | rfl <;> rfl
theorem flat_at (xs : List Cl) (k j : Nat) (c : Cl) (h : xs[k]? = some c) (hj : j < 9) : (flat xs)[k * 9 + j]? = c.cells[j]? := by
  induction xs generalizing k with
  | nil => simp at h
  | cons x xs ih =>
    rw [flat_cons]
    cases k with
    | zero =>
      simp only [List.getElem?_cons_zero, Option.some.injEq] at h
      subst h
      rw [List.getElem?_append_left (by simp [Cl.cells]; omega)]
      simp
    | succ k =>
      simp only [List.getElem?_cons_succ] at h
      rw [List.getElem?_append_right (by simp [Cl.cells]; omega)]
      have : (k + 1) * 9 + j - x.cells.length = k * 9 + j := by simp [Cl.cells]; omega
      rw [this, ih k h]
theorem flat_split (xs : List Cl) (i : Nat) (u : Value) (h : (flat xs)[i]? = some u) : ∃ k j c, i = k * 9 + j ∧ j < 9 ∧ xs[k]? = some c ∧ c.cells[j]? = some u := by
  have hi : i < xs.length * 9 := by
    have := (List.getElem?_eq_some_iff.1 h).1
    rwa [flat_length] at this
  have hk : i / 9 < xs.length := by omega
  refine ⟨i / 9, i % 9, xs[i / 9], by omega, by omega, List.getElem?_eq_getElem hk, ?_⟩
  rw [← flat_at xs (i / 9) (i % 9) _ (List.getElem?_eq_getElem hk) (by omega)]
  rw [← h]; congr 1; omega
theorem add_at (b o j : Nat) : (⟨b, o, none⟩ : Addr).add j = ⟨b, o + j, none⟩ := by
  unfold Addr.add
  split <;> simp_all
theorem IsCl.cell {w : World} {b o : Nat} {c : Cl} (h : IsCl w b o c) (j : Nat) (u : Value) (hu : c.cells[j]? = some u) : w.cell? ⟨b, o + j, none⟩ = some u := by
  obtain ⟨h0, h1, h2, h3, h4, h5, h6, h7, h8⟩ := h
  unfold Cl.cells at hu
  rcases j with _ | _ | _ | _ | _ | _ | _ | _ | _ | j <;> simp at hu <;> subst hu <;> assumption
theorem IsCl.of_cells {w : World} {b o : Nat} {c : Cl} (h : ∀ j u, c.cells[j]? = some u → w.cell? ⟨b, o + j, none⟩ = some u) : IsCl w b o c :=
  ⟨h 0 _ rfl, h 1 _ rfl, h 2 _ rfl, h 3 _ rfl, h 4 _ rfl, h 5 _ rfl, h 6 _ rfl, h 7 _ rfl, h 8 _ rfl⟩
/-- A chain's cells, out of its reading. -/
theorem SlC.news {w : World} {B m b off : Nat} {ys : List Cl} (h : SlC w B (some ⟨b, off, none⟩) m ys) : ∀ j u, (flat ys)[j]? = some u → w.cell? ((⟨b, off, none⟩ : Addr).add j) = some u := by
  intro i u hu
  obtain ⟨k, j, c, rfl, hj, hk, hc⟩ := flat_split ys i u hu
  have hm : 0 < m := by
    have h1 := h.1
    have := (List.getElem?_eq_some_iff.1 hk).1
    omega
  obtain ⟨b', off', e, _, hcl⟩ := h.2 hm
  injection e with e
  injection e with e1 e2
  subst e1 e2
  rw [add_at, ← Nat.add_assoc]
  exact (hcl k c hk).cell j u hc

/-- A chain of the call's own: the value owns the claims' cells. -/
def OwC (w : World) (base : Nat) (v : Value) (n : Nat) (xs : List Cl) : Prop := w.ownsRow base 29 9 v n (flat xs)
theorem OwC.len {w : World} {base n : Nat} {v : Value} {xs : List Cl} (h : OwC w base v n xs) : xs.length = n := by
  have := h.1
  rw [flat_length] at this
  omega
theorem OwC.nil (w : World) (base : Nat) : OwC w base (.slice none 0 0) 0 [] := World.ownsRow_nil w base 29 9
/-- A chain of one's own reads as its list. -/
theorem OwC.slc {w : World} {base n c : Nat} {A : Option Addr} {xs : List Cl} (h : OwC w base (.slice A n c) n xs) : SlC w w.heap.size A n xs := by
  refine ⟨h.len, fun hn => ?_⟩
  obtain ⟨g, cap, hv, _, hlt⟩ := h.form hn
  have hA : A = some ⟨g, 0, none⟩ := by injection hv
  subst hA
  refine ⟨g, 0, rfl, hlt, fun k c hk => IsCl.of_cells fun j u hu => ?_⟩
  have hj : j < 9 := by
    have := (List.getElem?_eq_some_iff.1 hu).1
    simpa [Cl.cells] using this
  have := World.ownsRow.cells h (g := g) rfl (k * 9 + j) u (by rw [flat_at xs k j c hk hj]; exact hu)
  rw [add_at] at this
  rw [Nat.zero_add] at this ⊢
  exact this
theorem OwC.form' {w : World} {base n : Nat} {v : Value} {xs : List Cl} (h : OwC w base v n xs) : ∃ A c, v = .slice A n c := by
  rcases h.2 with ⟨rfl, rfl⟩ | ⟨g, cap, cur, rfl, _⟩
  · exact ⟨_, _, rfl⟩
  · exact ⟨_, _, rfl⟩
theorem Cl.info : (Try.prog.info? 29).map (fun i => (i.zero, i.size, i.bytes)) = some (some (.agg #[.int .i64 0, .int .i64 0, .int .i64 0, .int .i64 0, .int .i64 0, .int .u64 0, .int .u64 0, .int .u64 0, .int .u64 0]), 9, 72) := by kernel_rfl

theorem grow_refl (w : World) (row : Option Nat) : w.grownBy w row := ⟨rfl, rfl, rfl, Nat.le_refl _, fun _ _ _ => rfl⟩
theorem run_append_none {w : World} {base n : Nat} {v : Value} {xs : List Cl} (hown : OwC w base v n xs) (ty : TypeId) (c : Nat) : (Builtin.append_ #[33, 33] ty #[v, .slice none 0 c]).run Try.prog w = .ok v w := by
  obtain ⟨i, hi, hz0, hz1, hz2⟩ := info_parts Cl.info
  rcases hown.2 with ⟨rfl, rfl⟩ | ⟨g, cap, cur, rfl, _, _, hnc, _⟩
  · simp [Builtin.append_, run_underlying Try.underlying33, sizeOf, typeInfo, hi, Builtin.lenOf, Builtin.firstCells]
  · simp [Builtin.append_, run_underlying Try.underlying33, sizeOf, typeInfo, hi, Builtin.lenOf, Builtin.firstCells, hnc, storeCells]

theorem run_app {w : World} {base n B m c : Nat} {v : Value} {xs ys : List Cl} {A : Option Addr} (hown : OwC w base v n xs) (hr : SlC w B A m ys) (ty : TypeId) (h1 : n + m ≤ 1000000) (hbase : base ≤ w.heap.size) :
    ∃ A' c' w', (Builtin.append_ #[33, 33] ty #[v, .slice A m c]).run Try.prog w = .ok (.slice A' (n + m) c') w' ∧ OwC w' base (.slice A' (n + m) c') (n + m) (xs ++ ys) ∧ w.grownBy w' v.ownBlock ∧
      ((Value.slice A' (n + m) c').ownBlock = v.ownBlock ∨ (Value.slice A' (n + m) c').ownBlock = some w.heap.size) := by
  obtain ⟨i, hi, hz0, hz1, hz2⟩ := info_parts Cl.info
  by_cases hA : m = 0 ∧ A = none
  · obtain ⟨rfl, rfl⟩ := hA
    have hy : ys = [] := List.eq_nil_of_length_eq_zero hr.1
    subst hy
    obtain ⟨A', c', hv⟩ := hown.form'
    subst hv
    refine ⟨A', c', w, ?_, ?_, grow_refl w _, .inl rfl⟩
    · exact run_append_none hown ty c
    · simpa using hown
  · have hex : ∃ ad, A = some ad ∧ ∀ j u, (flat ys)[j]? = some u → w.cell? (ad.add j) = some u := by
      by_cases hm : m = 0
      · rcases A with _ | ad
        · exact absurd ⟨hm, rfl⟩ hA
        · refine ⟨ad, rfl, fun j u hu => ?_⟩
          have hy : ys = [] := List.eq_nil_of_length_eq_zero (by have := hr.1; omega)
          subst hy
          simp [flat_nil] at hu
      · obtain ⟨b, off, e, _, _⟩ := hr.2 (by omega)
        subst e
        exact ⟨_, rfl, hr.news⟩
    obtain ⟨ad, rfl, hcells⟩ := hex
    obtain ⟨v', w', hrun, h2, h3, _, h5⟩ := run_append_own_at (P := Try.prog) w base 33 ty 29 i _ 9 72 Try.underlying33 hi hz0 hz1 hz2 rfl (by omega) v n (flat xs) hown ad m c (flat ys) (by rw [flat_length, hr.1]) hcells (flat_one ys) (by simp only [maxLen]; omega) (by omega) hbase
    rw [← flat_append] at h2
    obtain ⟨A', c', hv⟩ := OwC.form' h2
    subst hv
    exact ⟨A', c', w', hrun, h2, h3, h5⟩

theorem wp_app {w : World} {o : Oper} {a : Act} {K : Act → World → Prop} {Q : Exit → Act → World → Prop} (s x : Operand)
    (ho : o.op = .call { callee := .builtin .append, args := #[s, x], argTypes := #[33, 33] })
    (v : Value) (hs : a.eval s = v) (A : Option Addr) (m c : Nat) (hx : a.eval x = .slice A m c)
    (base n B : Nat) (xs ys : List Cl) (hown : OwC w base v n xs) (hr : SlC w B A m ys) (h1 : n + m ≤ 1000000) (hbase : base ≤ w.heap.size)
    (h : ∀ A' c' w', OwC w' base (.slice A' (n + m) c') (n + m) (xs ++ ys) → w.grownBy w' v.ownBlock → ((Value.slice A' (n + m) c').ownBlock = v.ownBlock ∨ (Value.slice A' (n + m) c').ownBlock = some w.heap.size) → K (a.put o.dst (.slice A' (n + m) c')) w') : o.wp Try.prog a w K Q := by
  obtain ⟨A', c', w', hrun, h2, h3, h4⟩ := run_app (c := c) hown hr o.type h1 hbase
  unfold Oper.wp execOp
  simp only [ho, resolve, invoke, builtin, Sem.run_bind, Sem.run_pure, Result.andThen_ok, List.map_toArray, List.map_cons, List.map_nil, hs, hx, hrun]
  exact h A' c' w' h2 h3 h4
theorem wpList_app {w : World} {ops : Array Oper} {rest : List Oper} {o : Oper} {a : Act} {Q : Exit → Act → World → Prop} (hgd : o.guard = none) (s x : Operand)
    (ho : o.op = .call { callee := .builtin .append, args := #[s, x], argTypes := #[33, 33] })
    (v : Value) (hs : a.eval s = v) (A : Option Addr) (m c : Nat) (hx : a.eval x = .slice A m c)
    (base n B : Nat) (xs ys : List Cl) (hown : OwC w base v n xs) (hr : SlC w B A m ys) (h1 : n + m ≤ 1000000) (hbase : base ≤ w.heap.size)
    (h : ∀ A' c' w', OwC w' base (.slice A' (n + m) c') (n + m) (xs ++ ys) → w.grownBy w' v.ownBlock → ((Value.slice A' (n + m) c').ownBlock = v.ownBlock ∨ (Value.slice A' (n + m) c').ownBlock = some w.heap.size) → wpList Try.prog ops Q rest (a.put o.dst (.slice A' (n + m) c')) w') :
    wpList Try.prog ops Q (o :: rest) a w :=
  wpList_plain hgd fun _ hK => wp_app s x ho v hs A m c hx base n B xs ys hown hr h1 hbase fun A' c' w' h2 h3 h4 => hK _ _ (h A' c' w' h2 h3 h4)
theorem step_app {w : World} {ops : Array Oper} {o : Oper} {a : Act} {K : Act → World → Prop} {Q : Exit → Act → World → Prop} {E : Prop} (hgd : o.guard = none) (s x : Operand)
    (ho : o.op = .call { callee := .builtin .append, args := #[s, x], argTypes := #[33, 33] })
    (v : Value) (hs : a.eval s = v) (A : Option Addr) (m c : Nat) (hx : a.eval x = .slice A m c)
    (base n B : Nat) (xs ys : List Cl) (hown : OwC w base v n xs) (hr : SlC w B A m ys) (h1 : n + m ≤ 1000000) (hbase : base ≤ w.heap.size)
    (h : ∀ A' c' w', OwC w' base (.slice A' (n + m) c') (n + m) (xs ++ ys) → w.grownBy w' v.ownBlock → ((Value.slice A' (n + m) c').ownBlock = v.ownBlock ∨ (Value.slice A' (n + m) c').ownBlock = some w.heap.size) → K (a.put o.dst (.slice A' (n + m) c')) w') :
    if Region.wanted o (yielded ops a.tmps) = true then Oper.wp Try.prog o a w K Q else E := by
  have hw : Region.wanted o (yielded ops a.tmps) = true := by simp [Region.wanted, hgd]
  rw [if_pos hw]
  exact wp_app s x ho v hs A m c hx base n B xs ys hown hr h1 hbase h

def OwnPost (base : Nat) (w : World) (n : Nat) (xs : List Cl) (e : Ending) (w' : World) : Prop := ∃ A c, e = .returned (.slice A n c) ∧ OwC w' base (.slice A n c) n xs ∧ Below w.heap.size w w'

set_option maxHeartbeats 400000 in
theorem clone_some (ad : Addr) (n c : Nat) (xs : List Cl) (w : World) (ha : SlC w w.heap.size (some ad) n xs) (hn : n ≤ 100000) :
    Calls Try.prog 54 #[.slice (some ad) n c] w (OwnPost w.heap.size w n xs) := by
  have He := fun W => Lib.run_eql_slice_nil (P := Try.prog) W 33 29 (some ad) n c 0 0 Try.underlying33
  have Ha := hide ha; clear ha
  go_enter Try.func54, Try.ntmps54
  go_wp2_with (at_builtin; refine wpList_app rfl (.tmp 5) (.tmp 6) rfl (.slice (some ⟨w.heap.size, 0, none⟩) 0 0) rfl (some ad) n c rfl w.heap.size 0 w.heap.size [] xs (World.ownsRow_made w #[] 0 (Nat.le_refl _) (by decide) rfl) (Ha.out.alloc (Nat.le_refl _) _) (by omega) (by simp) ?_; intro A' c' w1 how hgr _)
  go_ret
  have Hg : Below w.heap.size w w1 := ((Below.refl _ w).alloc (Nat.le_refl _) _).grown hgr (by simp) (by simp [Value.ownBlock])
  simp only [Nat.zero_add, List.nil_append] at how ⊢
  exact ⟨A', c', rfl, how, Hg⟩

set_option maxHeartbeats 400000 in
theorem clone_none (c : Nat) (w : World) :
    Calls Try.prog 54 #[.slice none 0 c] w fun e w' => e = .returned (.slice none 0 0) ∧ w = w' := by
  have He := fun W => Lib.run_eql_slice_nil (P := Try.prog) W 33 29 none 0 c 0 0 Try.underlying33
  go_enter Try.func54, Try.ntmps54
  go_wp2
  go_ret
  exact ⟨rfl, rfl⟩

theorem clone_any (A : Option Addr) (n c : Nat) (xs : List Cl) (w : World) (ha : SlC w w.heap.size A n xs) (hn : n ≤ 100000) :
    Calls Try.prog 54 #[.slice A n c] w (OwnPost w.heap.size w n xs) := by
  rcases A with _ | ad
  · have h0 : n = 0 := by
      rcases Nat.eq_zero_or_pos n with h | h
      · exact h
      · obtain ⟨b, off, e, _⟩ := ha.2 h
        cases e
    subst h0
    have hx : xs = [] := List.eq_nil_of_length_eq_zero ha.1
    subst hx
    refine (clone_none c w).mono ?_
    rintro e w' ⟨rfl, rfl⟩
    exact ⟨none, 0, rfl, OwC.nil _ _, Below.refl _ _⟩
  · exact clone_some ad n c xs w ha hn
end Go.Proofs.Ythpbjceajnaokaa
