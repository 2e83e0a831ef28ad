/- The statements' chains of three firms, has, and the reference's Before. Condition: the descriptions are readable. -/
import Derived.Test.YthpbjceajnaokaaAt4
import Derived.Test.YthpbjceajnaokaaMad
namespace Go.Proofs.Ythpbjceajnaokaa
open Go.RowKit

set_option maxHeartbeats 800000 in
theorem before_any (c d : Cl) (w : World) : Calls Try.prog 33 #[.agg #[.int .i64 c.firm, .int .i64 c.seq, .int .i64 c.time, .int .i64 c.kind, .int .i64 c.a, .int .u64 c.ref, .int .u64 c.aux, .int .u64 c.prev, .int .u64 c.tag], .agg #[.int .i64 d.firm, .int .i64 d.seq, .int .i64 d.time, .int .i64 d.kind, .int .i64 d.a, .int .u64 d.ref, .int .u64 d.aux, .int .u64 d.prev, .int .u64 d.tag]] w fun e w' => e = .returned (.bool (ltC c d)) ∧ Below w.heap.size w w' := by
  by_cases h1 : c.time = d.time
  · have h1b : (c.time != d.time) = false := by simpa using h1
    by_cases h2 : c.firm = d.firm
    · have h2b : (c.firm != d.firm) = false := by simpa using h2
      have H := hide (show decide (c.seq < d.seq) = ltC c d by simp [ltC, h1, h2])
      clear h1 h2
      go_enter Try.func33, Try.ntmps33
      go_wp2
      go_ret
      exact ⟨ret_bool H.out, (by repeat (first | exact Below.refl _ _ | refine Below.setCell ?_ (by simp) _ | refine below_drewN ?_ _ | refine Below.drew ?_ | refine Below.alloc ?_ (by simp) _ | refine Below.setCell ?_ (by simp; omega) _ | refine Below.alloc ?_ (by simp; omega) _))⟩
    · have h2b : (c.firm != d.firm) = true := by simpa using h2
      have H := hide (show decide (c.firm < d.firm) = ltC c d by simp [ltC, h1, h2])
      clear h1 h2
      go_enter Try.func33, Try.ntmps33
      go_wp2
      go_ret
      exact ⟨ret_bool H.out, (by repeat (first | exact Below.refl _ _ | refine Below.setCell ?_ (by simp) _ | refine below_drewN ?_ _ | refine Below.drew ?_ | refine Below.alloc ?_ (by simp) _ | refine Below.setCell ?_ (by simp; omega) _ | refine Below.alloc ?_ (by simp; omega) _))⟩
  · have h1b : (c.time != d.time) = true := by simpa using h1
    have H := hide (show decide (c.time < d.time) = ltC c d by simp [ltC, h1])
    clear h1
    go_enter Try.func33, Try.ntmps33
    go_wp2
    go_ret
    exact ⟨ret_bool H.out, (by repeat (first | exact Below.refl _ _ | refine Below.setCell ?_ (by simp) _ | refine below_drewN ?_ _ | refine Below.drew ?_ | refine Below.alloc ?_ (by simp) _ | refine Below.setCell ?_ (by simp; omega) _ | refine Below.alloc ?_ (by simp; omega) _))⟩

theorem SlC.keepAt0 {w w' : World} {B B' n : Nat} {A : Option Addr} {xs : List Cl} (h : SlC w B A n xs) (hk : 0 < n → ∀ ad, A = some ad → ∀ o, w'.cell? ⟨ad.block, o, none⟩ = w.cell? ⟨ad.block, o, none⟩) (hB : B ≤ B') : SlC w' B' A n xs :=
  ⟨h.1, fun hn => by
    obtain ⟨b, off, e, hb, hc⟩ := h.2 hn
    exact ⟨b, off, e, by omega, fun k c hu => (hc k c hu).keep fun o => hk hn _ e o⟩⟩
/-- A slice of slices of claims of the call's own, whose slices are no longer than their room. -/
def OwT (w : World) (base : Nat) (v : Value) (n : Nat) (xss : List (List Cl)) : Prop :=
  ∃ vals : List Value, w.ownsRow base 33 1 v n vals ∧ xss.length = n ∧ ∀ (k : Nat) (xs : List Cl), xss[k]? = some xs → ∃ (A' : Option Addr) (c' : Nat), vals[k]? = some (Value.slice A' xs.length c') ∧ SlC w w.heap.size A' xs.length xs ∧ (0 < xs.length → ∀ ad, A' = some ad → ad.block < w.heap.size ∧ v.ownBlock ≠ some ad.block) ∧ xs.length ≤ c'
/-- A slice of slices of claims, whose slices are no longer than their room. -/
def SlT (w : World) (B : Nat) (A : Option Addr) (n : Nat) (xss : List (List Cl)) : Prop :=
  xss.length = n ∧ (0 < n → ∃ b off, A = some ⟨b, off, none⟩ ∧ b < B ∧ ∀ k xs, xss[k]? = some xs → ∃ A' c', w.cell? ⟨b, off + k, none⟩ = some (.slice A' xs.length c') ∧ SlC w B A' xs.length xs ∧ xs.length ≤ c')
theorem SlT.slS {w : World} {B n : Nat} {A : Option Addr} {xss : List (List Cl)} (h : SlT w B A n xss) : SlS w B A n xss :=
  ⟨h.1, fun hn => by
    obtain ⟨b, off, e, hB, hc⟩ := h.2 hn
    refine ⟨b, off, e, hB, fun k xs hk => ?_⟩
    obtain ⟨A', c', h1, h2, _⟩ := hc k xs hk
    exact ⟨A', c', h1, h2⟩⟩
theorem SlT.below {w w' : World} {B n : Nat} {A : Option Addr} {xss : List (List Cl)} (h : SlT w B A n xss) (hb : Below B w w') : SlT w' B A n xss :=
  ⟨h.1, fun hn => by
    obtain ⟨b, off, e, hB, hc⟩ := h.2 hn
    refine ⟨b, off, e, hB, fun k xs hk => ?_⟩
    obtain ⟨A', c', h1, h2, h3⟩ := hc k xs hk
    exact ⟨A', c', (hb.cell (p := ⟨b, off + k, none⟩) hB).trans h1, h2.below hb, h3⟩⟩
theorem SlT.more {w : World} {B B' n : Nat} {A : Option Addr} {xss : List (List Cl)} (h : SlT w B A n xss) (hB : B ≤ B') : SlT w B' A n xss :=
  ⟨h.1, fun hn => by
    obtain ⟨b, off, e, hb, hc⟩ := h.2 hn
    refine ⟨b, off, e, by omega, fun k xs hk => ?_⟩
    obtain ⟨A', c', h1, h2, h3⟩ := hc k xs hk
    exact ⟨A', c', h1, h2.more hB, h3⟩⟩
theorem SlT.at_ {w : World} {B n k : Nat} {A : Option Addr} {xss : List (List Cl)} (h : SlT w B A n xss) (hk : k < n) : ∃ b off xs A' c', A = some ⟨b, off, none⟩ ∧ b < B ∧ xss[k]? = some xs ∧ w.cell? ⟨b, off + k, none⟩ = some (.slice A' xs.length c') ∧ SlC w B A' xs.length xs ∧ xs.length ≤ c' := by
  obtain ⟨b, off, e, hb, hc⟩ := h.2 (by omega)
  have hl : k < xss.length := by have := h.1; omega
  obtain ⟨A', c', h1, h2, h3⟩ := hc k _ (List.getElem?_eq_getElem hl)
  exact ⟨b, off, xss[k], A', c', e, hb, List.getElem?_eq_getElem hl, h1, h2, h3⟩
theorem OwT.empty {w : World} {base : Nat} (hb : base ≤ w.heap.size) : OwT (w.alloc (.cells #[] 33)) base (.slice (some ⟨w.heap.size, 0, none⟩) 0 0) 0 [] := by
  refine ⟨[], ⟨rfl, .inr ⟨w.heap.size, 0, #[], rfl, hb, heap_alloc_new w _, Nat.le_refl _, by simp [maxLen], rfl, rfl⟩⟩, rfl, fun k xs h => by simp at h⟩
theorem OwT.below {w w' : World} {base n : Nat} {v : Value} {xss : List (List Cl)} (h : OwT w base v n xss) (hb : Below w.heap.size w w') : OwT w' base v n xss := by
  obtain ⟨vals, h1, h2, h3⟩ := h
  refine ⟨vals, h1.kept (below_grown hb (Nat.le_refl _)) ?_, h2, fun k xs hk => ?_⟩
  · cases hv : v.ownBlock with
    | none => exact .inl rfl
    | some g => exact .inr (by simp)
  · obtain ⟨A', c', k1, k2, k3, k4⟩ := h3 k xs hk
    exact ⟨A', c', k1, (k2.below hb).more hb.size, fun hp ad e => ⟨Nat.lt_of_lt_of_le (k3 hp ad e).1 hb.size, (k3 hp ad e).2⟩, k4⟩
theorem OwT.slT {w : World} {base n c : Nat} {A : Option Addr} {xss : List (List Cl)} (h : OwT w base (.slice A n c) n xss) : SlT w w.heap.size A n xss := by
  obtain ⟨vals, h1, h2, h3⟩ := h
  refine ⟨h2, fun hn => ?_⟩
  obtain ⟨g, cap, hv, _, hlt⟩ := World.ownsRow.form h1 hn
  have hA : A = some ⟨g, 0, none⟩ := by injection hv
  subst hA
  refine ⟨g, 0, rfl, hlt, fun k xs hk => ?_⟩
  obtain ⟨A', c', k1, k2, _, k4⟩ := h3 k xs hk
  have := World.ownsRow.cells h1 (g := g) rfl k _ k1
  rw [add_at] at this
  exact ⟨A', c', this, k2, k4⟩
theorem OwT.row {w : World} {base n : Nat} {v : Value} {xss : List (List Cl)} (h : OwT w base v n xss) : ∀ k, v.ownBlock = some k → base ≤ k ∧ k < w.heap.size := by
  obtain ⟨vals, h1, _⟩ := h
  exact World.ownsRow.lt h1
theorem OwT.cap_le {w : World} {base n c : Nat} {A : Option Addr} {xss : List (List Cl)} (h : OwT w base (.slice A n c) n xss) : n ≤ c := by
  obtain ⟨vals, h1, _⟩ := h
  rcases h1.2 with ⟨h1, _⟩ | ⟨g, cap, cur, hv, _, _, hn, _⟩
  · injection h1; omega
  · injection hv; omega
theorem run_appT {w : World} {base n blk : Nat} {v : Value} {xss : List (List Cl)} {xs : List Cl} {A' : Option Addr} {c' : Nat} (hown : OwT w base v n xss) (hc : w.cell? ⟨blk, 0, none⟩ = some (.slice A' xs.length c'))
    (hs : SlC w w.heap.size A' xs.length xs) (hf : 0 < xs.length → ∀ ad, A' = some ad → ad.block < w.heap.size ∧ v.ownBlock ≠ some ad.block) (hcap : xs.length ≤ c') (ty : TypeId) (hn : n ≤ 100000) (hbase : base ≤ w.heap.size) :
    ∃ A'' c'' w', (Builtin.append_ #[31, 31] ty #[v, .slice (some ⟨blk, 0, none⟩) 1 1]).run Try.prog w = .ok (.slice A'' (n + 1) c'') w' ∧ OwT w' base (.slice A'' (n + 1) c'') (n + 1) (xss ++ [xs]) ∧ w.grownBy w' v.ownBlock := by
  obtain ⟨i, hi, hz0, hz1, hz2⟩ := info_parts Sl.info
  obtain ⟨vals, h1, h2, h3⟩ := hown
  have hvl : vals.length = n := by have := h1.1; omega
  obtain ⟨v', w', hrun, k2, k3, _, k5⟩ := run_append_own_at (P := Try.prog) w base 31 ty 33 i _ 1 24 Try.underlying31 hi hz0 hz1 hz2 rfl (by omega) v n vals h1 ⟨blk, 0, none⟩ 1 1 [.slice A' xs.length c'] rfl
    (fun j u hu => by
      rcases j with _ | j
      · simp only [List.getElem?_cons_zero, Option.some.injEq] at hu
        subst hu
        rw [add_at]; exact hc
      · simp at hu) (by simp [Value.oneCell']) (by simp only [maxLen]; omega) (by omega) hbase
  obtain ⟨g, cap, rfl, _, hlt⟩ := World.ownsRow.form k2 (by omega)
  have hnew : ∀ ad : Addr, ad.block < w.heap.size → v.ownBlock ≠ some ad.block → ad.block < w'.heap.size ∧ (Value.slice (some ⟨g, 0, none⟩) (n + 1) cap).ownBlock ≠ some ad.block := by
    intro ad had hne
    refine ⟨Nat.lt_of_lt_of_le had k3.size, ?_⟩
    rcases k5 with k5 | k5
    · rw [k5]; exact hne
    · rw [k5]; exact some_ne (by omega)
  have hold : ∀ ad : Addr, ad.block < w.heap.size → v.ownBlock ≠ some ad.block → ∀ o, w'.cell? ⟨ad.block, o, none⟩ = w.cell? ⟨ad.block, o, none⟩ :=
    fun ad had hne o => k3.cell_far ⟨ad.block, o, none⟩ had (fun e => hne e.symm)
  refine ⟨_, _, w', hrun, ⟨_, k2, by rw [List.length_append, h2]; rfl, fun k ys hk => ?_⟩, k3⟩
  by_cases hkn : k < n
  · rw [List.getElem?_append_left (by omega)] at hk
    obtain ⟨A1, c1, q1, q2, q3, q4⟩ := h3 k ys hk
    exact ⟨A1, c1, by rw [List.getElem?_append_left (by omega)]; exact q1, q2.keepAt0 (fun hp ad e => hold ad (q3 hp ad e).1 (q3 hp ad e).2) k3.size, fun hp ad e => hnew ad (q3 hp ad e).1 (q3 hp ad e).2, q4⟩
  · rw [List.getElem?_append_right (by omega), h2] at hk
    have hk0 : k - n = 0 := by
      have := (List.getElem?_eq_some_iff.1 hk).1
      simp at this; omega
    rw [hk0] at hk
    simp only [List.getElem?_cons_zero, Option.some.injEq] at hk
    subst hk
    exact ⟨A', c', by rw [List.getElem?_append_right (by omega), hvl, hk0]; rfl, hs.keepAt0 (fun hp ad e => hold ad (hf hp ad e).1 (hf hp ad e).2) k3.size, fun hp ad e => hnew ad (hf hp ad e).1 (hf hp ad e).2, hcap⟩
theorem wpList_appT {w : World} {ops : Array Oper} {rest : List Oper} {o : Oper} {a : Act} {Q : Exit → Act → World → Prop} (hgd : o.guard = none) (s x : Operand)
    (ho : o.op = .call { callee := .builtin .append, args := #[s, x], argTypes := #[31, 31] })
    (v : Value) (hsv : a.eval s = v) (blk : Nat) (hx : a.eval x = .slice (some ⟨blk, 0, none⟩) 1 1)
    (base n : Nat) (xss : List (List Cl)) (xs : List Cl) (A' : Option Addr) (c' : Nat) (hown : OwT w base v n xss) (hc : w.cell? ⟨blk, 0, none⟩ = some (.slice A' xs.length c'))
    (hs : SlC w w.heap.size A' xs.length xs) (hf : 0 < xs.length → ∀ ad, A' = some ad → ad.block < w.heap.size ∧ v.ownBlock ≠ some ad.block) (hcap : xs.length ≤ c') (hn : n ≤ 100000) (hbase : base ≤ w.heap.size)
    (h : ∀ A'' c'' w', OwT w' base (.slice A'' (n + 1) c'') (n + 1) (xss ++ [xs]) → w.grownBy w' v.ownBlock → wpList Try.prog ops Q rest (a.put o.dst (.slice A'' (n + 1) c'')) w') :
    wpList Try.prog ops Q (o :: rest) a w :=
  wpList_plain hgd fun _ hK => by
    obtain ⟨A'', c'', w', hrun, h2, h3⟩ := run_appT (xs := xs) hown hc hs hf hcap o.type hn hbase
    unfold Oper.wp execOp
    simp only [ho, resolve, invoke, builtin, Sem.run_bind, Sem.run_pure, Result.andThen_ok, List.map_toArray, List.map_cons, List.map_nil, hsv, hx, hrun]
    exact hK _ _ (h A'' c'' w' h2 h3)

/-- The chains that chains makes. -/
def ChnP (xss : List (List Cl)) : Prop := ∀ (k : Nat) (xs : List Cl), xss[k]? = some xs → MadeP (k : Int) (3 * ((12 : Nat) : Int)) xs ∧ xs.length ≤ 12
def ChnPost (w : World) (e : Ending) (w' : World) : Prop :=
  ∃ ad c xss, e = .returned (.slice (some ad) 3 c) ∧ SlT w' w'.heap.size (some ad) 3 xss ∧ 3 ≤ c ∧ ChnP xss ∧ Below w.heap.size w w'
theorem RawsAt.keep {w w' : World} {B B' n : Nat} {A : Option Addr} (h : RawsAt w B A n) (hk : ∀ b o, b < B → w'.cell? ⟨b, o, none⟩ = w.cell? ⟨b, o, none⟩) (hB : B ≤ B') : RawsAt w' B' A n := by
  intro hn
  obtain ⟨b, off, e, hb, hc⟩ := h hn
  refine ⟨b, off, e, by omega, fun k hkn => ?_⟩
  obtain ⟨x0, x1, x2, x3, ⟨g0, g1, g2, g3⟩, hx⟩ := hc k hkn
  exact ⟨x0, x1, x2, x3, ⟨(hk b _ hb).trans g0, (hk b _ hb).trans g1, (hk b _ hb).trans g2, (hk b _ hb).trans g3⟩, hx⟩
/-- The box of the three lists of descriptions. -/
def RBox (w wx : World) : Prop := ∀ k, k < 3 → ∃ A n c, wx.cell? ⟨w.heap.size, k, none⟩ = some (.slice A n c) ∧ RawsAt w w.heap.size A n
theorem RBox.start {w : World} {A0 A1 A2 : Option Addr} {n0 n1 n2 c0 c1 c2 : Nat} (h0 : RawsAt w w.heap.size A0 n0) (h1 : RawsAt w w.heap.size A1 n1) (h2 : RawsAt w w.heap.size A2 n2) : RBox w (w.alloc (.cells #[.slice A0 n0 c0, .slice A1 n1 c1, .slice A2 n2 c2] 23)) := by
  have n := heap_alloc_new w (.cells #[.slice A0 n0 c0, .slice A1 n1 c1, .slice A2 n2 c2] 23)
  intro k hk
  rcases k with _ | _ | _ | k
  · exact ⟨A0, n0, c0, by simp only [World.cell?, n]; rfl, h0⟩
  · exact ⟨A1, n1, c1, by simp only [World.cell?, n]; rfl, h1⟩
  · exact ⟨A2, n2, c2, by simp only [World.cell?, n]; rfl, h2⟩
  · omega

set_option maxRecDepth 100000 in
set_option maxHeartbeats 2000000 in
theorem chains_any (A0 A1 A2 : Option Addr) (n0 n1 n2 c0 c1 c2 : Nat) (w : World) (h0 : RawsAt w w.heap.size A0 n0) (h1 : RawsAt w w.heap.size A1 n1) (h2 : RawsAt w w.heap.size A2 n2) :
    Calls Try.prog 10 #[.agg #[.slice A0 n0 c0, .slice A1 n1 c1, .slice A2 n2 c2]] w (ChnPost w) := by
  have Hbx := hide (RBox.start (c0 := c0) (c1 := c1) (c2 := c2) h0 h1 h2); clear h0 h1 h2
  go_enter Try.func10, Try.ntmps10
  go_wp2
  obtain ⟨w1, hw1⟩ : ∃ V, V = w.alloc (.cells #[.slice A0 n0 c0, .slice A1 n1 c1, .slice A2 n2 c2] 23) := ⟨_, rfl⟩
  have hz1 : w1.heap.size = w.heap.size + 1 := by rw [hw1, World.size_alloc]
  have hb1 : Below w.heap.size w w1 := by rw [hw1]; exact (Below.refl _ w).alloc (Nat.le_refl _) _
  rw [← hw1] at Hbx ⊢
  rw [← hz1]
  have Hb1 := hide hb1
  have Hz1 := hide hz1
  clear hw1 hb1 hz1
  go_loopg [3, 4] 3 (fun gk sv si wr => ∃ (k c : Nat) (ad : Addr) (xss : List (List Cl)), k + gk = 3 ∧ sv = .slice (some ad) k c ∧ si = .int .i64 (k : Int) ∧ OwT wr w1.heap.size (.slice (some ad) k c) k xss ∧ ChnP xss ∧ Below w1.heap.size w1 wr)
  case atStart => exact ⟨0, 0, _, [], rfl, rfl, rfl, OwT.empty (Nat.le_refl _), fun k xs h => by simp at h, (Below.refl _ _).alloc (Nat.le_refl _) _⟩
  case round =>
    obtain ⟨k, c, ad, xss, hk, rfl, rfl, hown, hchn, hbl⟩ := hrel
    have Hown := hide hown; clear hown
    have Hchn := hide hchn; clear hchn
    have Hbl := hide hbl; clear hbl
    by_cases hlt : k < 3
    · obtain ⟨A, n, cc, hcell, hraw⟩ := Hbx.out k hlt
      rw [← Hbl.out.cell (p := ⟨w.heap.size, k, none⟩) (by have := Hz1.out; show w.heap.size < _; omega)] at hcell
      have hraw2 : RawsAt wr wr.heap.size A n := hraw.keep (fun b o hb => ((Hb1.out.trans (Hbl.out.mono (by have := Hz1.out; omega))).cell (p := ⟨b, o, none⟩) hb)) (by have := Hbl.out.size; have := Hz1.out; omega)
      have Hraw := hide hraw2; clear hraw hraw2
      have hk3 : (k : Int) < 3 := by omega
      have hk0 : (0 : Int) ≤ (k : Int) := by omega
      go_wp2_with fail
      refine (made_any (k : Int) A n cc 12 _ (by omega) Hraw.out).mono ?_
      rintro e w2 ⟨a2, m2, cb2, xs2, rfl, hs2, hmc2, hm2, had2, hb2, hmp2⟩
      have hlen : xs2.length = m2 := hs2.1
      subst hlen
      have hb13 : Below wr.heap.size wr w2 := hb2
      have os4 := (Hown.out.below hb2).below ((Below.refl _ w2).alloc (Nat.le_refl _) (.cells #[.slice (some a2) xs2.length cb2] 33))
      have hc4 : (w2.alloc (.cells #[.slice (some a2) xs2.length cb2] 33)).cell? ⟨w2.heap.size, 0, none⟩ = some (.slice (some a2) xs2.length cb2) := by rw [World.cell?_alloc_new]; rfl
      have hs4 : SlC (w2.alloc (.cells #[.slice (some a2) xs2.length cb2] 33)) (w2.alloc (.cells #[.slice (some a2) xs2.length cb2] 33)).heap.size (some a2) xs2.length xs2 := (hs2.alloc (Nat.le_refl _) _).more (by simp)
      have hf4 : 0 < xs2.length → ∀ ad', some a2 = some ad' → ad'.block < (w2.alloc (.cells #[.slice (some a2) xs2.length cb2] 33)).heap.size ∧ (Value.slice (some ad) k c).ownBlock ≠ some ad'.block := fun hp ad' e => by
        injection e with e
        subst e
        obtain ⟨b, off, e, hb, _⟩ := hs2.2 hp
        injection e with e
        subst e
        refine ⟨by simp; exact Nat.lt_succ_of_lt hb, fun e2 => ?_⟩
        have h2 : b < wr.heap.size := (Hown.out.row _ e2).2
        have h3 : wr.heap.size ≤ b := had2
        omega
      have Os4 := hide os4; clear os4
      have Hc4 := hide hc4; clear hc4
      have Hs4 := hide hs4; clear hs4
      have Hf4 := hide hf4; clear hf4
      have Hb2 := hide hb2; clear hb2 hb13 hs2 had2
      have Hmp := hide hmp2; clear hmp2
      go_wp2_with (at_builtin; refine wpList_appT rfl (.tmp 10) (.tmp 16) rfl (.slice (some ad) k c) rfl w2.heap.size rfl w1.heap.size k xss xs2 (some a2) cb2 Os4.out Hc4.out Hs4.out Hf4.out hmc2 (by omega) (by have := Hb2.out.size; have := Hbl.out.size; simp; omega) ?_; intro A5 c5 w5 ho5 hg5; have Ho5 := hide ho5; clear ho5; have Hg5 := hide hg5; clear hg5)
      go_roundg (3 - (k + 1))
      case measure => omega
      case rel =>
        have hA5 : ∃ a5, A5 = some a5 := by
          obtain ⟨vals, h1, _⟩ := Ho5.out
          obtain ⟨g, cap, hv, _, _⟩ := World.ownsRow.form h1 (by omega)
          injection hv with hv
          exact ⟨_, hv⟩
        obtain ⟨a5, rfl⟩ := hA5
        have hb4 : Below wr.heap.size wr (w2.alloc (.cells #[.slice (some a2) xs2.length cb2] 33)) := Hb2.out.alloc Hb2.out.size _
        refine ⟨k + 1, c5, a5, xss ++ [xs2], by omega, rfl, by go_num, Ho5.out, fun q ys hq => ?_, ?_⟩
        · have hxl : xss.length = k := by obtain ⟨_, _, h, _⟩ := Hown.out; exact h
          by_cases hqk : q < k
          · rw [List.getElem?_append_left (by omega)] at hq
            exact Hchn.out q ys hq
          · rw [List.getElem?_append_right (by omega), hxl] at hq
            have hq0 : q - k = 0 := by
              have := (List.getElem?_eq_some_iff.1 hq).1
              simp at this; omega
            rw [hq0] at hq
            simp only [List.getElem?_cons_zero, Option.some.injEq] at hq
            subst hq
            rw [show q = k by omega]
            exact ⟨Hmp.out, hm2⟩
        · exact (Hbl.out.trans (hb4.mono Hbl.out.size)).grown Hg5.out (by have := hb4.size; have := Hbl.out.size; omega) (fun b e => (Hown.out.row b e).1)
    · obtain rfl : k = 3 := by omega
      have h1 := Hown.out.slT
      have hcap := Hown.out.cap_le
      have H1 := hide h1; clear h1
      go_wp2
      go_ret
      exact ⟨ad, c, xss, rfl, H1.out, hcap, Hchn.out, Hb1.out.trans (Hbl.out.mono (by have := Hz1.out; omega))⟩
theorem eql_same (c : Cl) (W : World) : (binOp .eql 29 (.agg #[.int .i64 c.firm, .int .i64 c.seq, .int .i64 c.time, .int .i64 c.kind, .int .i64 c.a, .int .u64 c.ref, .int .u64 c.aux, .int .u64 c.prev, .int .u64 c.tag]) (.agg #[.int .i64 c.firm, .int .i64 c.seq, .int .i64 c.time, .int .i64 c.kind, .int .i64 c.a, .int .u64 c.ref, .int .u64 c.aux, .int .u64 c.prev, .int .u64 c.tag])).run Try.prog W = .ok (.bool true) W := by
  have u3 := Try.underlying3
  have u27 := Try.underlying27
  have hS : Try.prog.underlying 29 = some (.struct (Try.prog.fieldsOf 29)) := by kernel_rfl
  have hp : Try.prog.stoodInHeld 29 = false := by kernel_rfl
  rw [run_eql_struct, show (10000 : Nat) = 9999 + 1 from rfl, run_equalIn_agg W 9999 29 _ _ hS hp]
  simp only [Program.fieldsOf, Try.underlying29]
  go_simp
theorem eql_other (c d : Cl) (h : c ≠ d) (W : World) : (binOp .eql 29 (.agg #[.int .i64 c.firm, .int .i64 c.seq, .int .i64 c.time, .int .i64 c.kind, .int .i64 c.a, .int .u64 c.ref, .int .u64 c.aux, .int .u64 c.prev, .int .u64 c.tag]) (.agg #[.int .i64 d.firm, .int .i64 d.seq, .int .i64 d.time, .int .i64 d.kind, .int .i64 d.a, .int .u64 d.ref, .int .u64 d.aux, .int .u64 d.prev, .int .u64 d.tag])).run Try.prog W = .ok (.bool false) W := by
  have u3 := Try.underlying3
  have u27 := Try.underlying27
  have hS : Try.prog.underlying 29 = some (.struct (Try.prog.fieldsOf 29)) := by kernel_rfl
  have hp : Try.prog.stoodInHeld 29 = false := by kernel_rfl
  rw [run_eql_struct, show (10000 : Nat) = 9999 + 1 from rfl, run_equalIn_agg W 9999 29 _ _ hS hp]
  simp only [Program.fieldsOf, Try.underlying29]
  go_simp
  obtain ⟨a0, a1, a2, a3, a4, a5, a6, a7, a8⟩ := c
  obtain ⟨b0, b1, b2, b3, b4, b5, b6, b7, b8⟩ := d
  simp only [ne_eq, Cl.mk.injEq] at h ⊢
  intro e0 e1 e2 e3 e4 e5 e6 e7 e8
  exact h ⟨e0, e1, e2, e3, e4, e5, e6, e7, e8⟩
def hasB (xs : List Cl) (c : Cl) : Bool := decide (c ∈ xs)

set_option maxHeartbeats 800000 in
theorem has_any (A : Option Addr) (n ca : Nat) (xs : List Cl) (c : Cl) (w : World) (ha : SlC w w.heap.size A n xs) (hn : n ≤ 100000) :
    Calls Try.prog 34 #[.slice A n ca, .agg #[.int .i64 c.firm, .int .i64 c.seq, .int .i64 c.time, .int .i64 c.kind, .int .i64 c.a, .int .u64 c.ref, .int .u64 c.aux, .int .u64 c.prev, .int .u64 c.tag]] w fun e w' => e = .returned (.bool (hasB xs c)) ∧ Below w.heap.size w w' := by
  have Ha := hide ha; clear ha
  go_enter Try.func34, Try.ntmps34
  go_wp2
  obtain ⟨w1, hw1⟩ : ∃ V, V = w.alloc (.cells (#[.int .i64 c.firm, .int .i64 c.seq, .int .i64 c.time, .int .i64 c.kind, .int .i64 c.a, .int .u64 c.ref, .int .u64 c.aux, .int .u64 c.prev, .int .u64 c.tag]) 29) := ⟨_, rfl⟩
  have hb1 : Below w.heap.size w w1 := by rw [hw1]; exact (Below.refl _ w).alloc (Nat.le_refl _) _
  have hc1 : IsCl w1 w.heap.size 0 c := by rw [hw1]; exact IsCl.block (heap_alloc_new w _)
  rw [← hw1]
  have Hb1 := hide hb1
  obtain ⟨y0, y1, y2, y3, y4, y5, y6, y7, y8⟩ := hc1.at0
  clear hw1 hb1 hc1
  go_loopw [5] (fun i wr => ∃ k : Nat, k ≤ n ∧ i = .int .i64 k ∧ c ∉ xs.take k ∧ ∃ q, wr = w1.drewN q) (fun i _ => n - (intOf i).toNat)
  case atStart => exact ⟨0, by omega, rfl, by simp, 0, rfl⟩
  case round =>
    obtain ⟨k, hk, rfl, hno, q, rfl⟩ := hrel
    have Hno := hide hno; clear hno
    by_cases hlt : k < n
    · obtain ⟨b1, o1, d, rfl, hbb, hx, hd⟩ := Ha.out.at_ (k := k) hlt
      have hd1 := hd.keep (w' := w1) (fun o => Hb1.out.cell (p := ⟨b1, o, none⟩) hbb)
      obtain ⟨g0, g1, g2, g3, g4, g5, g6, g7, g8⟩ := hd1
      have Hx := hide hx
      clear hx hd hbb
      have kn : (k : Int) < n := by omega
      by_cases hcd : d = c
      · subst hcd
        have Es := @eql_same
        go_wp2
        go_quiet (fail)
        go_wp2
        go_ret
        exact ⟨ret_bool (decide_eq_true (List.mem_of_getElem? Hx.out)).symm, by rw [World.drewN_drewN]; exact below_drewN Hb1.out _⟩
      · have Eo := eql_other d c hcd
        have Hcd := hide hcd; clear hcd
        go_wp2
        go_quiet (fail)
        go_wp2
        go_roundw
        case rel => exact ⟨k + 1, by omega, by go_num, by rw [take_snoc Hx.out]; simp only [List.mem_append, List.mem_singleton, not_or]; exact ⟨Hno.out, fun e => Hcd.out e.symm⟩, _, rfl⟩
        case measure => simp [intOf]; omega
    · go_wp2
      go_ret
      refine ⟨ret_bool ?_, below_drewN Hb1.out q⟩
      rw [hasB, eq_comm, decide_eq_false_iff_not]
      have h := Hno.out
      rwa [List.take_of_length_le (by have := Ha.out.1; omega)] at h
end Go.Proofs.Ythpbjceajnaokaa
