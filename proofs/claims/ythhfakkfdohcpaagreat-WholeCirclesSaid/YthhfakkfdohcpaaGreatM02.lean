/- Structs of many cells: loads and stores by whole boxes. No condition. -/
import Derived.Test.YthhfakkfdohcpaaGreatM01
import Derived.Deep.MidRow
import Derived.Deep.RegionLaw
namespace Go.Proofs.YthhfakkfdohcpaaGreat
open Go.RowKit

theorem BoxAt.range {W : World} {g : Nat} {vs : List Value} (h : BoxAt W g vs) (o : Nat) (cs : List Value) (hc : ∀ j v, cs[j]? = some v → vs[o + j]? = some v) : W.rangeAt g o cs := fun j v hv => h.1 (o + j) v (hc j v hv)
theorem BoxAt.whole {W : World} {g : Nat} {vs : List Value} (h : BoxAt W g vs) : W.rangeAt g 0 vs := fun j v hv => by rw [Nat.zero_add]; exact h.1 j v hv
theorem BoxAt.there {W : World} {g : Nat} {vs : List Value} (h : BoxAt W g vs) (o n : Nat) (hn : o + n ≤ vs.length) : W.there g o n := fun j hj => by
  obtain ⟨u, hu⟩ : ∃ u, vs[o + j]? = some u := ⟨_, List.getElem?_eq_getElem (by omega)⟩
  exact ⟨by rw [h.1 _ u hu]; rfl, h.2.1 _⟩
theorem BoxAt.sub {W : World} {g : Nat} {vs : List Value} (h : BoxAt W g vs) (o : Nat) (cs : List Value) (e : (vs.drop o).take cs.length = cs) : W.rangeAt g o cs := h.range o cs fun j v hv => by
  have hj : j < cs.length := (List.getElem?_eq_some_iff.1 hv).1
  rw [← e, List.getElem?_take, if_pos hj, List.getElem?_drop] at hv
  exact hv
theorem size_setCells (b : Nat) : ∀ (vs : List Value) (o : Nat) (w : World), (w.setCells b o vs).heap.size = w.heap.size
  | [], _, _ => rfl
  | v :: r, o, w => by rw [World.setCells, size_setCells b r]; simp
/-- A store of many cells into a box. -/
theorem BoxAt.put {W : World} {g : Nat} {vs : List Value} (h : BoxAt W g vs) (o : Nat) (cs vs' : List Value) (hl : o + cs.length ≤ vs.length) (e : vs' = vs.take o ++ cs ++ vs.drop (o + cs.length)) : BoxAt (W.setCells g o cs) g vs' := by
  subst e
  refine ⟨fun i v hv => ?_, fun x => by rw [World.frozen?_setCells]; exact h.2.1 x, ?_⟩
  · by_cases h1 : i < o
    · rw [World.cell?_setCells_out g cs o W ⟨g, i, none⟩ (fun _ _ => .inl h1)]
      apply h.1
      rw [List.append_assoc, List.getElem?_append_left (by simp; omega), List.getElem?_take, if_pos h1] at hv
      exact hv
    · by_cases h2 : i < o + cs.length
      · have := World.cell?_setCells_in g cs o W (fun j hj => (h.there o cs.length hl j hj).1) (i - o) (by omega)
        rw [show o + (i - o) = i by omega] at this
        rw [this]
        rw [List.append_assoc, List.getElem?_append_right (by simp; omega), List.getElem?_append_left (by simp; omega)] at hv
        rw [List.length_take, Nat.min_eq_left (by omega)] at hv
        rw [← hv, List.getElem?_eq_getElem (by omega)]
      · rw [World.cell?_setCells_out g cs o W ⟨g, i, none⟩ (fun _ _ => .inr (by show o + cs.length ≤ i; omega))]
        apply h.1
        rw [List.getElem?_append_right (by simp; omega), List.getElem?_drop] at hv
        simp only [List.length_append, List.length_take, Nat.min_eq_left (show o ≤ vs.length by omega)] at hv
        rw [show o + cs.length + (i - (o + cs.length)) = i by omega] at hv
        exact hv
  · rw [size_setCells]; exact h.2.2
theorem Below.setCells {B b : Nat} {V : World} (hb : B ≤ b) : ∀ (vs : List Value) (o : Nat) (w : World), Below B V w → Below B V (w.setCells b o vs)
  | [], _, _, h => h
  | v :: r, o, w, h => by rw [World.setCells]; exact Below.setCells hb r _ _ (h.setCell (p := ⟨b, o, none⟩) hb v)
theorem But.setCells {S : Nat → Prop} {b : Nat} {V : World} (hb : S b) : ∀ (vs : List Value) (o : Nat) (w : World), But S V w → But S V (w.setCells b o vs)
  | [], _, _, h => h
  | v :: r, o, w, h => by rw [World.setCells]; exact But.setCells hb r _ _ (h.setCell (p := ⟨b, o, none⟩) hb v)
theorem BoxAt.elsewhere {W : World} {g b o : Nat} {vs : List Value} (h : BoxAt W g vs) (hb : b ≠ g) (cs : List Value) : BoxAt (W.setCells b o cs) g vs :=
  h.but (But.setCells (S := fun k => k = b) rfl cs o W (But.refl _ _)) (fun e => hb e.symm)

/-- The load of a struct, as a step of a region that draws. -/
theorem step_load_box {ops : Array Oper} {o : Oper} {a : Act} {w : World} {K : Act → World → Prop} {Q : Exit → Act → World → Prop} {E : Prop} (hg : o.guard = none) (ty : TypeId) (x : Operand) (ho : o.op = .load ty x)
    (b off : Nat) (hx : a.eval x = .pointer (some ⟨b, off, none⟩)) (cs : List Value) (d : TypeDesc) (hc : w.rangeAt b off cs)
    (hu : Tryz.prog.underlying ty = some d) (hd : d.isRow = true) (hi : (Tryz.prog.info? ty).map (·.size) = some cs.length)
    (h : K (a.put o.dst (.agg cs.toArray)) w) : if Region.wanted o (yielded ops a.tmps) = true then Oper.wp Tryz.prog o a w K Q else E := by
  have hw : Region.wanted o (yielded ops a.tmps) = true := by simp [Region.wanted, hg]
  rw [if_pos hw]
  exact wp_load_mid ty x ho b off hx cs d hc hu hd hi h
theorem step_store_box {ops : Array Oper} {o : Oper} {a : Act} {w : World} {K : Act → World → Prop} {Q : Exit → Act → World → Prop} {E : Prop} (hg : o.guard = none) (ty : TypeId) (x y : Operand) (ho : o.op = .store ty x y)
    (b off : Nat) (cells : Array Value) (hx : a.eval x = .pointer (some ⟨b, off, none⟩)) (hy : a.eval y = .agg cells)
    (ht : w.there b off cells.size) (hi : (Tryz.prog.info? ty).map (·.size) = some cells.size) (h1 : cells.all (·.oneCell') = true)
    (h : K (a.put o.dst undef) (w.setCells b off cells.toList)) : if Region.wanted o (yielded ops a.tmps) = true then Oper.wp Tryz.prog o a w K Q else E := by
  have hw : Region.wanted o (yielded ops a.tmps) = true := by simp [Region.wanted, hg]
  rw [if_pos hw]
  exact wp_store_mid ty x y ho b off cells hx hy ht hi h1 h
/-- 'wpAnyH_take', with the slot that is written as a number. -/
theorem take_as {ops : Array Oper} {md : Region.Mode} {Q : Exit → Act → World → Prop} {S : World → Prop} (i : Nat) (d : Option Tmp) {v : Value} {oi : Oper} {fuel : Nat} {listed : Array Bool} {a : Act} {w : World} (hi : ops[i]? = some oi) (hd : oi.dst = d)
    (hs : Region.noSelect ops = true) (hf : Region.free md ops listed i = true) (hr : (Region.ready md ops listed).contains i = true)
    (hQ : ∀ c a w, Q (.panic c) (a.put d v) w → Q (.panic c) a w) (hy : YieldsIf Tryz.prog ops S oi v a) (hS : S w)
    (h : wpAnyH Tryz.prog md ops Q S fuel (listed.setIfInBounds i true) (a.put d v) w) : wpAnyH Tryz.prog md ops Q S (fuel + 1) listed a w := by
  subst hd
  exact wpAnyH_take hi hs hf hr hQ hy hS h
theorem step_load_as {ops : Array Oper} {o : Oper} {a : Act} {w : World} {K : Act → World → Prop} {Q : Exit → Act → World → Prop} {E : Prop} (d : Option Tmp) (hd : o.dst = d) (hg : o.guard = none) (ty : TypeId) (x : Operand) (ho : o.op = .load ty x)
    (b off : Nat) (hx : a.eval x = .pointer (some ⟨b, off, none⟩)) (cs : List Value) (t : TypeDesc) (hc : w.rangeAt b off cs)
    (hu : Tryz.prog.underlying ty = some t) (ht : t.isRow = true) (hi : (Tryz.prog.info? ty).map (·.size) = some cs.length)
    (h : K (a.put d (.agg cs.toArray)) w) : if Region.wanted o (yielded ops a.tmps) = true then Oper.wp Tryz.prog o a w K Q else E := by
  subst hd; exact step_load_box hg ty x ho b off hx cs t hc hu ht hi h
theorem step_store_as {ops : Array Oper} {o : Oper} {a : Act} {w : World} {K : Act → World → Prop} {Q : Exit → Act → World → Prop} {E : Prop} (hd : o.dst = none) (hg : o.guard = none) (ty : TypeId) (x y : Operand) (ho : o.op = .store ty x y)
    (b off : Nat) (cells : Array Value) (hx : a.eval x = .pointer (some ⟨b, off, none⟩)) (hy : a.eval y = .agg cells)
    (ht : w.there b off cells.size) (hi : (Tryz.prog.info? ty).map (·.size) = some cells.size) (h1 : cells.all (·.oneCell') = true)
    (h : K a (w.setCells b off cells.toList)) : if Region.wanted o (yielded ops a.tmps) = true then Oper.wp Tryz.prog o a w K Q else E :=
  step_store_box hg ty x y ho b off cells hx hy ht hi h1 (by rw [hd]; exact h)
/-- A struct is stored into the variable that was made last: the world behind it under a name of its own. -/
theorem wpList_store_new {ops : Array Oper} {rest : List Oper} {o : Oper} {a : Act} {w : World} {Q : Exit → Act → World → Prop} (hg : o.guard = none) (hd : o.dst = none) (ty : TypeId) (x y : Operand) (ho : o.op = .store ty x y)
    {A : List Value} {t : TypeId} (cs : List Value) (hx : a.eval x = .pointer (some ⟨w.heap.size, 0, none⟩)) (hy : a.eval y = .agg cs.toArray) (hl : A.length = cs.length) (hi : (Tryz.prog.info? ty).map (·.size) = some cs.toArray.size) (h1 : ∀ v ∈ cs, v.oneCell' = true)
    (h : ∀ V, BoxAt V w.heap.size cs → Below w.heap.size w V → wpList Tryz.prog ops Q rest a V) : wpList Tryz.prog ops Q (o :: rest) a (w.alloc (.cells A.toArray t)) := by
  have B := BoxAt.new w A t
  refine wpList_store_mid hg ty x y ho w.heap.size 0 cs.toArray hx hy (B.there 0 _ (by simp; omega)) hi (all_oneCell_toArray h1) ?_
  rw [hd]
  refine h _ (B.put 0 _ _ (by simp; omega) ?_) (Below.setCells (Nat.le_refl _) _ _ _ ((Below.refl _ w).alloc (Nat.le_refl _) _))
  rw [List.drop_eq_nil_of_le (by simp; omega)]
  simp
/-- A struct is stored into a box. -/
theorem wpList_store_in {ops : Array Oper} {rest : List Oper} {o : Oper} {a : Act} {w : World} {Q : Exit → Act → World → Prop} (hg : o.guard = none) (hd : o.dst = none) (ty : TypeId) (x y : Operand) (ho : o.op = .store ty x y)
    (g off : Nat) (vs cs vs' : List Value) (hx : a.eval x = .pointer (some ⟨g, off, none⟩)) (hy : a.eval y = .agg cs.toArray) (B : BoxAt w g vs) (hl : off + cs.length ≤ vs.length) (e : vs' = vs.take off ++ cs ++ vs.drop (off + cs.length)) (hi : (Tryz.prog.info? ty).map (·.size) = some cs.toArray.size) (h1 : ∀ v ∈ cs, v.oneCell' = true)
    (h : ∀ V, BoxAt V g vs' → But (fun k => k = g) w V → wpList Tryz.prog ops Q rest a V) : wpList Tryz.prog ops Q (o :: rest) a w := by
  refine wpList_store_mid hg ty x y ho g off cs.toArray hx hy (B.there off _ (by simpa using hl)) hi (all_oneCell_toArray h1) ?_
  rw [hd]
  exact h _ (B.put off _ _ (by simpa using hl) (by simpa using e)) (But.setCells (S := fun k => k = g) rfl _ _ _ (But.refl _ _))
/-- A result that is a struct, read off its box. -/
theorem res_box {fn : Func} {t : Nat} {ty : TypeId} {tmps : Array Value} {W : World} {g : Nat} {cs : List Value} {d : TypeDesc} (hr : fn.results = #[.cell t ty]) (ht : tmps.getD t undef = .pointer (some ⟨g, 0, none⟩)) (h : BoxAt W g cs)
    (hu : Tryz.prog.underlying ty = some d) (hd : d.isRow = true) (hi : (Tryz.prog.info? ty).map (·.size) = some cs.length) :
    (results fn tmps).run Tryz.prog W = .ok (.agg cs.toArray) W := by
  have ht' : tmps[t]?.getD undef = .pointer (some ⟨g, 0, none⟩) := by rw [← ht]; simp [Array.getD_eq_getD_getElem?]
  simp [results, hr, ht', asAddr, run_loadVar_mid W g 0 ty cs d h.whole hu hd hi]
theorem res_box2 {fn : Func} {t u : Nat} {x : Value} {ty : TypeId} {tmps : Array Value} {W : World} {g : Nat} {cs : List Value} {d : TypeDesc} (hr : fn.results = #[.cell t ty, .tmp u]) (ht : tmps.getD t undef = .pointer (some ⟨g, 0, none⟩)) (hx : tmps.getD u undef = x) (h : BoxAt W g cs)
    (hu : Tryz.prog.underlying ty = some d) (hd : d.isRow = true) (hi : (Tryz.prog.info? ty).map (·.size) = some cs.length) :
    (results fn tmps).run Tryz.prog W = .ok (.tuple #[.agg cs.toArray, x]) W := by
  have ht' : tmps[t]?.getD undef = .pointer (some ⟨g, 0, none⟩) := by rw [← ht]; simp [Array.getD_eq_getD_getElem?]
  have hx' : tmps[u]?.getD undef = x := by rw [← hx]; simp [Array.getD_eq_getD_getElem?]
  simp [results, hr, ht', hx', asAddr, run_loadVar_mid W g 0 ty cs d h.whole hu hd hi]
end Go.Proofs.YthhfakkfdohcpaaGreat
/- Appends to slices of the call's own, by whole boxes. No condition. -/
namespace Go.Proofs.YthhfakkfdohcpaaGreat
open Go.RowKit
/-- A slice type with its element type: cells and bytes. -/
structure ElemOf (t e : TypeId) (size bytes : Nat) : Prop where
  under : Tryz.prog.underlying t = some (.slice e)
  info : (Tryz.prog.info? e).map (fun i => (i.zero.map (fun z => z.cells.size), i.size, i.bytes)) = some (some size, size, bytes)
  pos : 0 < size
  small : bytes ≤ 10000
theorem But.ofGrown {W W' : World} {r : Option Nat} (h : W.grownBy W' r) : But (fun k => r = some k) W W' :=
  ⟨h.os, h.tape, h.output, h.size, fun k hk hs => h.block k hk (fun e => hs e.symm)⟩
/-- What an append leaves. -/
structure Apd (w w' : World) (B : Nat) (e : TypeId) (size : Nat) (v v' : Value) (n : Nat) (xs : List Value) (g cap : Nat) : Prop where
  is : v' = .slice (some ⟨g, 0, none⟩) n cap
  own : w'.ownsRow B e size v' n xs
  le : n ≤ cap
  base : B ≤ g
  box : BoxAt w' g xs
  but : But (fun k => v.ownBlock = some k) w w'
  new : v.ownBlock = some g ∨ w.heap.size ≤ g
theorem run_append_to (w : World) (t ty e : TypeId) (size bytes : Nat) (hE : ElemOf t e size bytes) (B : Nat) (v : Value) (n : Nat) (xs : List Value) (hown : w.ownsRow B e size v n xs)
    (g m c : Nat) (news : List Value) (hN : BoxAt w g news) (hl : news.length = m * size) (h1 : ∀ u ∈ news, u.oneCell' = true) (hm : 0 < m) (hn : n + m ≤ 10000) (hB : B ≤ w.heap.size) :
    ∃ g' cap w', (Builtin.append_ #[t, t] ty #[v, .slice (some ⟨g, 0, none⟩) m c]).run Tryz.prog w = .ok (.slice (some ⟨g', 0, none⟩) (n + m) cap) w' ∧ Apd w w' B e size v (.slice (some ⟨g', 0, none⟩) (n + m) cap) (n + m) (xs ++ news) g' cap := by
  obtain ⟨hu, hinfo, hpos, hsm⟩ := hE
  cases hi : Tryz.prog.info? e with
  | none => rw [hi] at hinfo; simp at hinfo
  | some i =>
    rw [hi] at hinfo
    simp only [Option.map_some, Option.some.injEq, Prod.mk.injEq] at hinfo
    obtain ⟨hz, hsz, hby⟩ := hinfo
    cases hz0 : i.zero with
    | none => rw [hz0] at hz; simp at hz
    | some z =>
      rw [hz0] at hz
      simp only [Option.map_some, Option.some.injEq] at hz
      have hb1 : (n + m) * bytes ≤ 10000 * 10000 := Nat.mul_le_mul hn hsm
      have hb2 : m * bytes ≤ 10000 * 10000 := Nat.mul_le_mul (by omega) hsm
      have hnews : ∀ j u, news[j]? = some u → w.cell? ((⟨g, 0, none⟩ : Addr).add j) = some u := fun j u hj => by rw [addr_at]; exact hN.1 j u hj
      obtain ⟨v', w', hr, hown', hgrow, hne⟩ := run_append_own (P := Tryz.prog) w B t ty e i z size bytes hu hi hz0 hsz hby hz hpos v n xs hown ⟨g, 0, none⟩ m c news hl hnews h1 (by unfold maxLen; omega) (by omega) hB
      obtain ⟨g', cap, rfl, hg', hbox, hcap⟩ := own_box hown' (by omega)
      refine ⟨g', cap, w', hr, rfl, hown', hcap, hg', hbox, But.ofGrown hgrow, ?_⟩
      subst hsz
      subst hby
      rcases hown.2 with ⟨rfl, rfl⟩ | ⟨g0, c0, cur, rfl, hbg, hg0, hnc, hcm, hcs, htake⟩
      · have h2 := run_append_nil (P := Tryz.prog) w t ty e i z hu hi hz0 ⟨g, 0, none⟩ m c news hl hnews hm (by omega) (by omega)
        rw [h2] at hr
        injection hr with hr
        injection hr with hr
        injection hr with hr
        injection hr with hr
        exact .inr (by omega)
      · by_cases hroom : n + m ≤ c0
        · have h2 := run_append_room (P := Tryz.prog) w t ty e i hu hi g0 n c0 cur hg0 ⟨g, 0, none⟩ m c news hl hnews h1 hroom (by rw [hl, hcs, ← Nat.add_mul]; exact Nat.mul_le_mul_right _ hroom)
          rw [h2] at hr
          injection hr with hr
          injection hr with hr
          injection hr with hr
          injection hr with hr
          exact .inl (by rw [← hr]; rfl)
        · have h2 := run_append_grow (P := Tryz.prog) w t ty e i z hu hi hz0 ⟨g0, 0, none⟩ n c0 xs hown.1 (hown.cells (g := g0) rfl) ⟨g, 0, none⟩ m c news hl hnews (by omega) (by omega) (growslice_fits (by omega) (by omega))
          rw [h2] at hr
          injection hr with hr
          injection hr with hr
          injection hr with hr
          injection hr with hr
          exact .inr (by omega)
/-- An append of one element or more to a slice of the call's own. -/
theorem wpList_append_to {P0 : Program} (hP : P0 = Tryz.prog) {ops : Array Oper} {rest : List Oper} {o : Oper} {a : Act} {w : World} {Q : Exit → Act → World → Prop} (hg : o.guard = none) (s x : Operand) (t e : TypeId) (size bytes : Nat) (hE : ElemOf t e size bytes)
    (ho : o.op = .call { callee := .builtin .append, args := #[s, x], argTypes := #[t, t] })
    (B : Nat) (v : Value) (n : Nat) (xs : List Value) (hs : a.eval s = v) (hown : w.ownsRow B e size v n xs)
    (g m c : Nat) (news : List Value) (hx : a.eval x = .slice (some ⟨g, 0, none⟩) m c) (hN : BoxAt w g news) (hl : news.length = m * size) (h1 : ∀ u ∈ news, u.oneCell' = true) (hm : 0 < m) (hn : n + m ≤ 10000) (hB : B ≤ w.heap.size)
    (h : ∀ g' cap w', Apd w w' B e size v (.slice (some ⟨g', 0, none⟩) (n + m) cap) (n + m) (xs ++ news) g' cap → wpList P0 ops Q rest (a.put o.dst (.slice (some ⟨g', 0, none⟩) (n + m) cap)) w') : wpList P0 ops Q (o :: rest) a w := by
  subst hP
  refine wpList_plain hg fun K' hK' => ?_
  obtain ⟨g', cap, w', hr, hA⟩ := run_append_to w t o.type e size bytes hE B v n xs hown g m c news hN hl h1 hm hn hB
  unfold Oper.wp
  simp only [execOp, ho, resolve, invoke, builtin, Sem.run_bind, Sem.run_pure, Result.andThen_ok, List.map_toArray, List.map_cons, List.map_nil, hs, hx, hr]
  exact hK' _ _ (h g' cap w' hA)
theorem step_append_to {ops : Array Oper} {o : Oper} {a : Act} {w : World} {K : Act → World → Prop} {Q : Exit → Act → World → Prop} {E : Prop} (d : Option Tmp) (hd : o.dst = d) (hg : o.guard = none) (s x : Operand) (t e : TypeId) (size bytes : Nat) (hE : ElemOf t e size bytes)
    (ho : o.op = .call { callee := .builtin .append, args := #[s, x], argTypes := #[t, t] })
    (B : Nat) (v : Value) (n : Nat) (xs : List Value) (hs : a.eval s = v) (hown : w.ownsRow B e size v n xs)
    (g m c : Nat) (news : List Value) (hx : a.eval x = .slice (some ⟨g, 0, none⟩) m c) (hN : BoxAt w g news) (hl : news.length = m * size) (h1 : ∀ u ∈ news, u.oneCell' = true) (hm : 0 < m) (hn : n + m ≤ 10000) (hB : B ≤ w.heap.size)
    (h : ∀ g' cap w', Apd w w' B e size v (.slice (some ⟨g', 0, none⟩) (n + m) cap) (n + m) (xs ++ news) g' cap → K (a.put d (.slice (some ⟨g', 0, none⟩) (n + m) cap)) w') : if Region.wanted o (yielded ops a.tmps) = true then Oper.wp Tryz.prog o a w K Q else E := by
  subst hd
  have hw : Region.wanted o (yielded ops a.tmps) = true := by simp [Region.wanted, hg]
  rw [if_pos hw]
  obtain ⟨g', cap, w', hr, hA⟩ := run_append_to w t o.type e size bytes hE B v n xs hown g m c news hN hl h1 hm hn hB
  unfold Oper.wp
  simp only [execOp, ho, resolve, invoke, builtin, Sem.run_bind, Sem.run_pure, Result.andThen_ok, List.map_toArray, List.map_cons, List.map_nil, hs, hx, hr]
  exact h g' cap w' hA
/-- The first append lays a new block. -/
theorem Apd.first {w w' : World} {B : Nat} {e : TypeId} {size : Nat} {v' : Value} {n : Nat} {xs : List Value} {g cap : Nat} (h : Apd w w' B e size (.slice none 0 0) v' n xs g cap) : Below w.heap.size w w' ∧ w.heap.size ≤ g :=
  ⟨⟨h.but.os, h.but.tape, h.but.output, h.but.size, fun k hk => h.but.block k hk (fun e => by simp [Value.ownBlock] at e)⟩, h.new.resolve_left (fun e => by simp [Value.ownBlock] at e)⟩
/-- A later one leaves all that lay below the base. -/
theorem Apd.below {w w' : World} {B : Nat} {e : TypeId} {size : Nat} {v v' : Value} {n : Nat} {xs : List Value} {n0 : Nat} {xs0 : List Value} {g cap : Nat} (h : Apd w w' B e size v v' n xs g cap) (hown : w.ownsRow B e size v n0 xs0) (hB : B ≤ w.heap.size) : Below B w w' :=
  h.but.below hB (fun k hk => (hown.lt k hk).1)
theorem box_new (W : World) (vs : List Value) (t : TypeId) {g : Nat} (h : g = W.heap.size) : BoxAt (W.alloc (.cells vs.toArray t)) g vs := by rw [h]; exact BoxAt.new W vs t
theorem own_nil (w : World) (B : Nat) (e : TypeId) (size : Nat) : w.ownsRow B e size (.slice none 0 0) 0 [] := ⟨by simp, .inl ⟨rfl, rfl⟩⟩
theorem elemPair : ElemOf 24 29 3 24 := ⟨Tryz.underlying24, by kernel_rfl, by omega, by omega⟩
theorem elemInt : ElemOf 42 3 1 8 := ⟨Tryz.underlying42, by kernel_rfl, by omega, by omega⟩
theorem elemFinding : ElemOf 33 54 3 24 := ⟨Tryz.underlying33, by kernel_rfl, by omega, by omega⟩
theorem elemAbs : ElemOf 154 57 5 40 := ⟨Tryz.underlying154, by kernel_rfl, by omega, by omega⟩
theorem elemFact : ElemOf 55 164 8 128 := ⟨Tryz.underlying55, by kernel_rfl, by omega, by omega⟩
theorem elemSummary : ElemOf 76 59 11 104 := ⟨Tryz.underlying76, by kernel_rfl, by omega, by omega⟩
theorem elemProof : ElemOf 32 61 16 208 := ⟨Tryz.underlying32, by kernel_rfl, by omega, by omega⟩
end Go.Proofs.YthhfakkfdohcpaaGreat
/- A slice of one element is built: by whole boxes. No condition. -/
namespace Go.Proofs.YthhfakkfdohcpaaGreat
open Go.RowKit
theorem fold_set (cs : List Value) : ∀ (pre : List Value) (rest : List Value), rest.length = cs.length →
    (cs.zipIdx pre.length).foldl (fun (a : Array Value) (p : Value × Nat) => a.setIfInBounds (0 + p.2) p.1) (pre ++ rest).toArray = (pre ++ cs).toArray := by
  induction cs with
  | nil => intro pre rest h; simp at h; simp [h]
  | cons c cs ih =>
    intro pre rest h
    cases rest with
    | nil => simp at h
    | cons r rest =>
      simp only [List.zipIdx_cons, List.foldl_cons, Nat.zero_add]
      have e1 : ((pre ++ r :: rest).toArray).setIfInBounds pre.length c = ((pre ++ [c]) ++ rest).toArray := by
        simp
      have := ih (pre ++ [c]) rest (by simpa using h)
      simp only [Nat.zero_add, List.length_append, List.length_cons, List.length_nil] at this
      rw [e1, this]
      simp
theorem run_buildSlice_one (w : World) (t e : TypeId) (size bytes : Nat) (hE : ElemOf t e size bytes) (v : Value) (cs : List Value) (hv : v.cells = cs.toArray) (hl : cs.length = size) (hs : size ≤ 10000) :
    (Instr.buildSlice t 1 #[(0, v)]).run Tryz.prog w = .ok (.slice (some ⟨w.heap.size, 0, none⟩) 1 1) (w.alloc (.cells cs.toArray e)) := by
  obtain ⟨hu, hinfo, hpos, hsm⟩ := hE
  cases hi : Tryz.prog.info? e with
  | none => rw [hi] at hinfo; simp at hinfo
  | some i =>
    rw [hi] at hinfo
    simp only [Option.map_some, Option.some.injEq, Prod.mk.injEq] at hinfo
    obtain ⟨hz, hsz, hby⟩ := hinfo
    cases hz0 : i.zero with
    | none => rw [hz0] at hz; simp at hz
    | some z =>
      rw [hz0] at hz
      simp only [Option.map_some, Option.some.injEq] at hz
      subst hl
      have hb : ¬ (2 ^ 24 < 1 * cs.length) := by omega
      have hn : ¬ (1 * cs.length = 0) := by omega
      simp only [Instr.buildSlice, Sem.run_bind, run_underlying hu w, Result.andThen, sizeOf, typeInfo, program, Sem.run, hi, Sem.run_pure, zeroValue]
      have hfill : Instr.fill (fun j => some (j * cs.length, cs.length)) (Array.map (fun x => z.cells[x % z.cells.size]!) (Array.range (1 * cs.length))) [(0, v)] = some cs.toArray := by
        have hrl : ∃ rest : List Value, (Array.map (fun x => z.cells[x % z.cells.size]!) (Array.range (1 * cs.length))) = rest.toArray ∧ rest.length = cs.length := ⟨_, (Array.toArray_toList (xs := _)).symm, by simp⟩
        obtain ⟨rest, hr, hrl⟩ := hrl
        have hf := fold_set cs [] rest hrl
        simp only [List.nil_append, List.length_nil] at hf
        rw [hr]
        simp [Instr.fill, hv, hrl]
        rw [← hf]
        simp
      rw [hsz, if_neg hb, if_neg hn]
      simp only [Sem.run_bind, Sem.run, Result.andThen, hi, hz0, Sem.run_pure, hfill, newRow, newObj]
      rfl
theorem wpList_buildSlice_one {P0 : Program} (hP : P0 = Tryz.prog) {ops : Array Oper} {rest : List Oper} {o : Oper} {a : Act} {w : World} {Q : Exit → Act → World → Prop} (hg : o.guard = none) (t e : TypeId) (size bytes : Nat) (hE : ElemOf t e size bytes) (x : Operand) (ho : o.op = .buildSlice t 1 #[(0, x)])
    (v : Value) (cs : List Value) (hx : a.eval x = v) (hv : v.cells = cs.toArray) (hl : cs.length = size) (hs : size ≤ 10000)
    (h : ∀ g V, BoxAt V g cs → w.heap.size ≤ g → Below w.heap.size w V → wpList P0 ops Q rest (a.put o.dst (.slice (some ⟨g, 0, none⟩) 1 1)) V) : wpList P0 ops Q (o :: rest) a w := by
  subst hP
  refine wpList_plain hg fun K' hK' => ?_
  have hrun := run_buildSlice_one w t e size bytes hE v cs hv hl hs
  unfold Oper.wp
  simp only [execOp, ho, List.map_toArray, List.map_cons, List.map_nil, hx, Sem.run_bind, Result.andThen, hrun, Sem.run_pure]
  exact hK' _ _ (h _ _ (BoxAt.new w cs e) (Nat.le_refl _) ((Below.refl _ w).alloc (Nat.le_refl _) _))
theorem step_buildSlice_one {ops : Array Oper} {o : Oper} {a : Act} {w : World} {K : Act → World → Prop} {Q : Exit → Act → World → Prop} {E : Prop} (d : Option Tmp) (hd : o.dst = d) (hg : o.guard = none) (t e : TypeId) (size bytes : Nat) (hE : ElemOf t e size bytes) (x : Operand) (ho : o.op = .buildSlice t 1 #[(0, x)])
    (v : Value) (cs : List Value) (hx : a.eval x = v) (hv : v.cells = cs.toArray) (hl : cs.length = size) (hs : size ≤ 10000)
    (h : ∀ g V, BoxAt V g cs → w.heap.size ≤ g → Below w.heap.size w V → K (a.put d (.slice (some ⟨g, 0, none⟩) 1 1)) V) : if Region.wanted o (yielded ops a.tmps) = true then Oper.wp Tryz.prog o a w K Q else E := by
  subst hd
  have hw : Region.wanted o (yielded ops a.tmps) = true := by simp [Region.wanted, hg]
  rw [if_pos hw]
  have hrun := run_buildSlice_one w t e size bytes hE v cs hv hl hs
  unfold Oper.wp
  simp only [execOp, ho, List.map_toArray, List.map_cons, List.map_nil, hx, Sem.run_bind, Result.andThen, hrun, Sem.run_pure]
  exact h _ _ (BoxAt.new w cs e) (Nat.le_refl _) ((Below.refl _ w).alloc (Nat.le_refl _) _)
end Go.Proofs.YthhfakkfdohcpaaGreat
