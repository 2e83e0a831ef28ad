/- What an analysis knows, as it lies; its kinds of statements. No condition. -/
import Derived.Test.YthhfakkfdohcpaaGreatM06
import Derived.Test.YthhfakkfdohcpaaGreatM01
namespace Go.Proofs.YthhfakkfdohcpaaGreat
open Go.RowKit Go.ChangeMaps Go.MapKept

/-- The cells of an analysis. -/
def anL (mf mp mr : Nat) (lk : Int) (rs es : Value) (mx : Nat) (b : Nat → Nat) (lv id ds : Int) (nm B su : Value) : List Value :=
  [.map (some mf), .map (some mp), .map (some mr), .int .i64 lk, rs, es, .map (some mx)] ++ pgL b ++ [.int .i64 lv, .slice none 0 0] ++ dfL id ds nm B ++ [su, .int .i64 0]
/-- An analysis as it lies: its box and its four maps. -/
structure An (W : World) (x mf mp mr mx : Nat) (lk : Int) (rs es : Value) (b : Nat → Nat) (lv id ds : Int) (nm B su : Value) (lp lx : List (Value × Value)) : Prop where
  box : BoxAt W x (anL mf mp mr lk rs es mx b lv id ds nm B su)
  fnd : MapAt W mf []
  prs : MapAt W mp lp
  rls : MapAt W mr []
  fct : MapAt W mx lx
  d1 : mf ≠ mp
  d2 : mf ≠ mx
  d3 : mr ≠ mp
  d4 : mr ≠ mx
  d5 : mp ≠ mx
  e1 : x ≠ mf
  e2 : x ≠ mp
  e3 : x ≠ mr
  e4 : x ≠ mx
section
variable {S : Nat → Prop} {W W' : World} {x mf mp mr mx : Nat} {lk : Int} {rs es : Value} {b : Nat → Nat} {lv id ds : Int} {nm B su : Value} {lp lx : List (Value × Value)}
theorem An.but (h : An W x mf mp mr mx lk rs es b lv id ds nm B su lp lx) (hb : But S W W') (hs : ∀ k, S k → W.heap.size ≤ k) : An W' x mf mp mr mx lk rs es b lv id ds nm B su lp lx :=
  { h with
    box := h.box.but hb (fun y => by have := hs _ y; have := h.box.2.2; omega)
    fnd := h.fnd.but hb (fun y => by have := hs _ y; have := h.fnd.lt; omega)
    prs := h.prs.but hb (fun y => by have := hs _ y; have := h.prs.lt; omega)
    rls := h.rls.but hb (fun y => by have := hs _ y; have := h.rls.lt; omega)
    fct := h.fct.but hb (fun y => by have := hs _ y; have := h.fct.lt; omega) }
theorem An.below (h : An W x mf mp mr mx lk rs es b lv id ds nm B su lp lx) (hb : Below W.heap.size W W') : An W' x mf mp mr mx lk rs es b lv id ds nm B su lp lx :=
  h.but (Below.but hb (fun _ => False)) (fun _ y => y.elim)
theorem An.drew (h : An W x mf mp mr mx lk rs es b lv id ds nm B su lp lx) : An W.drew x mf mp mr mx lk rs es b lv id ds nm B su lp lx := h.below (Below.refl _ _).drew
theorem An.setLk (h : An W x mf mp mr mx lk rs es b lv id ds nm B su lp lx) (lk' : Int) : An (W.setCell ⟨x, 3, none⟩ (.int .i64 lk')) x mf mp mr mx lk' rs es b lv id ds nm B su lp lx :=
  { h with box := (h.box.set 3 (by simp [anL, pgL, dfL]) _).as rfl, fnd := h.fnd.set h.e1, prs := h.prs.set h.e2, rls := h.rls.set h.e3, fct := h.fct.set h.e4 }
/-- Nothing of it is touched by what lies above N. -/
theorem An.apart (h : An W x mf mp mr mx lk rs es b lv id ds nm B su lp lx) (hb : But S W W') (N : Nat) (hs : ∀ k, S k → N ≤ k) (hN : x < N ∧ mf < N ∧ mp < N ∧ mr < N ∧ mx < N) : An W' x mf mp mr mx lk rs es b lv id ds nm B su lp lx :=
  { h with
    box := h.box.but hb (fun y => by have := hs _ y; omega)
    fnd := h.fnd.but hb (fun y => by have := hs _ y; omega)
    prs := h.prs.but hb (fun y => by have := hs _ y; omega)
    rls := h.rls.but hb (fun y => by have := hs _ y; omega)
    fct := h.fct.but hb (fun y => by have := hs _ y; omega) }
theorem An.lt (h : An W x mf mp mr mx lk rs es b lv id ds nm B su lp lx) : x < W.heap.size ∧ mf < W.heap.size ∧ mp < W.heap.size ∧ mr < W.heap.size ∧ mx < W.heap.size := ⟨h.box.2.2, h.fnd.lt, h.prs.lt, h.rls.lt, h.fct.lt⟩
/-- Behind a write of the facts. -/
theorem An.factsPut (h : An W x mf mp mr mx lk rs es b lv id ds nm B su lp lx) (lx' : List (Value × Value)) : An (putMap W mx lx') x mf mp mr mx lk rs es b lv id ds nm B su lp lx' :=
  have hb := putMap_but lx' h.fct
  { h with box := h.box.but hb h.e4, fnd := h.fnd.but hb h.d2, prs := h.prs.but hb h.d5, rls := h.rls.but hb h.d4, fct := putMap_at h.fct }
theorem An.pairsPut (h : An W x mf mp mr mx lk rs es b lv id ds nm B su lp lx) (lp' : List (Value × Value)) : An (putMap W mp lp') x mf mp mr mx lk rs es b lv id ds nm B su lp' lx :=
  have hb := putMap_but lp' h.prs
  { h with box := h.box.but hb h.e2, fnd := h.fnd.but hb h.d1, prs := putMap_at h.prs, rls := h.rls.but hb h.d3, fct := h.fct.but hb (fun e => h.d5 e.symm) }
end
theorem wpList_insert_new {P0 : Program} (hP : P0 = Tryz.prog) {ops : Array Oper} {rest : List Oper} {o : Oper} {a : Act} {w : World} {Q : Exit → Act → World → Prop} (hg : o.guard = none) {T Kt Et : TypeId} (x y z : Operand) (ho : o.op = .insert T x y z)
    (m : Nat) (k v : Value) (l : List (Value × Value)) (hx : a.eval x = .map (some m)) (hy : a.eval y = k) (hz : a.eval z = v) (ht : Tryz.prog.underlying T = some (.map Kt Et)) (h : MapAt w m l)
    (hck : ∀ w, (Instr.checkKey false 10000 Kt k).run Tryz.prog w = .ok () w) (hn : NoKey Kt k l)
    (hK : wpList P0 ops Q rest (a.put o.dst undef) (putMap w m (l ++ [(k, v)]))) : wpList P0 ops Q (o :: rest) a w := by
  subst hP
  refine wpList_plain hg fun K' hK' => ?_
  have hrun := run_update_new (v := v) ht h hck hn
  unfold Oper.wp
  simp [execOp, ho, hx, hy, hz, hrun, Result.andThen]
  exact hK' _ _ hK
theorem check_int (k : Int) : ∀ w, (Instr.checkKey false 10000 3 (.int .i64 k)).run Tryz.prog w = .ok () w := fun w => by kernel_rfl
theorem run_lookup_miss {T K E : TypeId} {W : World} {m : Nat} {l : List (Value × Value)} {k z : Value} (ht : Tryz.prog.underlying T = some (.map K E)) (h : MapAt W m l)
    (hck : ∀ w, (Instr.checkKey (entL l).toArray.isEmpty 10000 K k).run Tryz.prog w = .ok () w) (hn : NoKey K k l) (hz : ∀ w, (zeroValue E).run Tryz.prog w = .ok z w) (c : Bool) :
    (Instr.lookup T (.map (some m)) k c).run Tryz.prog W = .ok (if c then .tuple #[z, .bool false] else z) W := by
  have hg : (getObj m).run Tryz.prog W = .ok (.map (entL l).toArray l.length) W := MapKept.run_getObj_map h
  have hf := hn W
  simp only [Instr.lookup, Sem.run_bind, run_underlying ht W, Result.andThen, hg, Sem.run_pure, hck W, hf, hz W]
/-- A look-up that finds nothing, as a step of a region that draws. -/
theorem step_lookup_miss {ops : Array Oper} {o : Oper} {a : Act} {w : World} {K : Act → World → Prop} {Q : Exit → Act → World → Prop} {E : Prop} (d : Option Tmp) (hd : o.dst = d) (hg : o.guard = none) {T Kt Et : TypeId} (x y : Operand) (c : Bool) (ho : o.op = .lookup T x y c)
    (m : Nat) (k z : Value) (l : List (Value × Value)) (hx : a.eval x = .map (some m)) (hy : a.eval y = k) (ht : Tryz.prog.underlying T = some (.map Kt Et)) (h : MapAt w m l)
    (hck : ∀ w, (Instr.checkKey (entL l).toArray.isEmpty 10000 Kt k).run Tryz.prog w = .ok () w) (hn : NoKey Kt k l) (hz : ∀ w, (zeroValue Et).run Tryz.prog w = .ok z w)
    (hK : K (a.put d (if c then .tuple #[z, .bool false] else z)) w) : if Region.wanted o (yielded ops a.tmps) = true then Oper.wp Tryz.prog o a w K Q else E := by
  subst hd
  have hw : Region.wanted o (yielded ops a.tmps) = true := by simp [Region.wanted, hg]
  rw [if_pos hw]
  have hrun := run_lookup_miss ht h hck hn hz c
  unfold Oper.wp
  simp [execOp, ho, hx, hy, hrun, Result.andThen]
  exact hK
/-- The kinds of statements that have a way of their own. -/
def kiL (x : Nat) : List (Value × Value) :=
  [(.int .i64 11, .func (.func 165) #[.pointer (some ⟨x, 0, none⟩)] #[]), (.int .i64 12, .func (.func 166) #[.pointer (some ⟨x, 0, none⟩)] #[]),
   (.int .i64 15, .func (.func 167) #[.pointer (some ⟨x, 0, none⟩)] #[]), (.int .i64 24, .func (.func 168) #[.pointer (some ⟨x, 0, none⟩)] #[])]
theorem noKey_ints (k : Int) (l : List (Value × Value)) (ks : List Int) (h : l.map (·.1) = ks.map (Value.int .i64)) (hk : k ∉ ks) : NoKey 3 (.int .i64 k) l :=
  noKey_int Tryz.underlying3 k l (fun p hp => by
    have : p.1 ∈ ks.map (Value.int .i64) := by rw [← h]; exact List.mem_map_of_mem hp
    obtain ⟨a, ha, e⟩ := List.mem_map.1 this
    exact ⟨a, e.symm, fun e => hk (e ▸ ha)⟩)
set_option maxRecDepth 100000 in
set_option maxHeartbeats 4000000 in
theorem kinds_any (x : Nat) (w : World) : Calls Tryz.prog 137 #[.pointer (some ⟨x, 0, none⟩)] w fun e w' => ∃ g, e = .returned (.map (some g)) ∧ w.heap.size ≤ g ∧ MapAt w' g (kiL x) ∧ Below w.heap.size w w' := by
  have hmf : ∀ (fn : Fn) (first cap : Array Value) (w : World), (Instr.makeFunc fn first cap).run Tryz.prog w = .ok (.func fn first cap) w := fun _ _ _ _ => rfl
  have hmm := @run_makeMap Tryz.prog
  go_enter Tryz.func137, Tryz.ntmps137
  have M0 := MapAt.new w
  have u1 : (Instr.mapUpdate 240 (.map (some w.heap.size)) (.int .i64 11) (Value.func (.func 165) #[Value.pointer (some ⟨x, 0, none⟩)] #[])).run Tryz.prog (w.alloc (.map #[] 0)) = .ok () (putMap (w.alloc (.map #[] 0)) w.heap.size [(Value.int .i64 11, Value.func (.func 165) #[Value.pointer (some ⟨x, 0, none⟩)] #[])]) := run_update_new Tryz.underlying240 M0 (check_int _) (noKey_ints _ _ [] rfl (by decide))
  have M1 : MapAt (putMap (w.alloc (.map #[] 0)) w.heap.size [(Value.int .i64 11, Value.func (.func 165) #[Value.pointer (some ⟨x, 0, none⟩)] #[])]) w.heap.size [(Value.int .i64 11, Value.func (.func 165) #[Value.pointer (some ⟨x, 0, none⟩)] #[])] := putMap_at M0
  have B1 : Below w.heap.size w (putMap (w.alloc (.map #[] 0)) w.heap.size [(Value.int .i64 11, Value.func (.func 165) #[Value.pointer (some ⟨x, 0, none⟩)] #[])]) := ((Below.refl _ w).alloc (Nat.le_refl _) _).trans ((putMap_but _ M0).below (by simp) (fun k hk => by omega))
  have u2 : (Instr.mapUpdate 240 (.map (some w.heap.size)) (.int .i64 12) (Value.func (.func 166) #[Value.pointer (some ⟨x, 0, none⟩)] #[])).run Tryz.prog (putMap (w.alloc (.map #[] 0)) w.heap.size [(Value.int .i64 11, Value.func (.func 165) #[Value.pointer (some ⟨x, 0, none⟩)] #[])]) = .ok () (putMap (putMap (w.alloc (.map #[] 0)) w.heap.size [(Value.int .i64 11, Value.func (.func 165) #[Value.pointer (some ⟨x, 0, none⟩)] #[])]) w.heap.size [(Value.int .i64 11, Value.func (.func 165) #[Value.pointer (some ⟨x, 0, none⟩)] #[]), (Value.int .i64 12, Value.func (.func 166) #[Value.pointer (some ⟨x, 0, none⟩)] #[])]) := run_update_new Tryz.underlying240 M1 (check_int _) (noKey_ints _ _ [11] rfl (by decide))
  have M2 : MapAt (putMap (putMap (w.alloc (.map #[] 0)) w.heap.size [(Value.int .i64 11, Value.func (.func 165) #[Value.pointer (some ⟨x, 0, none⟩)] #[])]) w.heap.size [(Value.int .i64 11, Value.func (.func 165) #[Value.pointer (some ⟨x, 0, none⟩)] #[]), (Value.int .i64 12, Value.func (.func 166) #[Value.pointer (some ⟨x, 0, none⟩)] #[])]) w.heap.size [(Value.int .i64 11, Value.func (.func 165) #[Value.pointer (some ⟨x, 0, none⟩)] #[]), (Value.int .i64 12, Value.func (.func 166) #[Value.pointer (some ⟨x, 0, none⟩)] #[])] := putMap_at M1
  have B2 : Below w.heap.size w (putMap (putMap (w.alloc (.map #[] 0)) w.heap.size [(Value.int .i64 11, Value.func (.func 165) #[Value.pointer (some ⟨x, 0, none⟩)] #[])]) w.heap.size [(Value.int .i64 11, Value.func (.func 165) #[Value.pointer (some ⟨x, 0, none⟩)] #[]), (Value.int .i64 12, Value.func (.func 166) #[Value.pointer (some ⟨x, 0, none⟩)] #[])]) := B1.trans ((putMap_but _ M1).below (B1.size) (fun k hk => by omega))
  have u3 : (Instr.mapUpdate 240 (.map (some w.heap.size)) (.int .i64 15) (Value.func (.func 167) #[Value.pointer (some ⟨x, 0, none⟩)] #[])).run Tryz.prog (putMap (putMap (w.alloc (.map #[] 0)) w.heap.size [(Value.int .i64 11, Value.func (.func 165) #[Value.pointer (some ⟨x, 0, none⟩)] #[])]) w.heap.size [(Value.int .i64 11, Value.func (.func 165) #[Value.pointer (some ⟨x, 0, none⟩)] #[]), (Value.int .i64 12, Value.func (.func 166) #[Value.pointer (some ⟨x, 0, none⟩)] #[])]) = .ok () (putMap (putMap (putMap (w.alloc (.map #[] 0)) w.heap.size [(Value.int .i64 11, Value.func (.func 165) #[Value.pointer (some ⟨x, 0, none⟩)] #[])]) w.heap.size [(Value.int .i64 11, Value.func (.func 165) #[Value.pointer (some ⟨x, 0, none⟩)] #[]), (Value.int .i64 12, Value.func (.func 166) #[Value.pointer (some ⟨x, 0, none⟩)] #[])]) w.heap.size [(Value.int .i64 11, Value.func (.func 165) #[Value.pointer (some ⟨x, 0, none⟩)] #[]), (Value.int .i64 12, Value.func (.func 166) #[Value.pointer (some ⟨x, 0, none⟩)] #[]), (Value.int .i64 15, Value.func (.func 167) #[Value.pointer (some ⟨x, 0, none⟩)] #[])]) := run_update_new Tryz.underlying240 M2 (check_int _) (noKey_ints _ _ [11, 12] rfl (by decide))
  have M3 : MapAt (putMap (putMap (putMap (w.alloc (.map #[] 0)) w.heap.size [(Value.int .i64 11, Value.func (.func 165) #[Value.pointer (some ⟨x, 0, none⟩)] #[])]) w.heap.size [(Value.int .i64 11, Value.func (.func 165) #[Value.pointer (some ⟨x, 0, none⟩)] #[]), (Value.int .i64 12, Value.func (.func 166) #[Value.pointer (some ⟨x, 0, none⟩)] #[])]) w.heap.size [(Value.int .i64 11, Value.func (.func 165) #[Value.pointer (some ⟨x, 0, none⟩)] #[]), (Value.int .i64 12, Value.func (.func 166) #[Value.pointer (some ⟨x, 0, none⟩)] #[]), (Value.int .i64 15, Value.func (.func 167) #[Value.pointer (some ⟨x, 0, none⟩)] #[])]) w.heap.size [(Value.int .i64 11, Value.func (.func 165) #[Value.pointer (some ⟨x, 0, none⟩)] #[]), (Value.int .i64 12, Value.func (.func 166) #[Value.pointer (some ⟨x, 0, none⟩)] #[]), (Value.int .i64 15, Value.func (.func 167) #[Value.pointer (some ⟨x, 0, none⟩)] #[])] := putMap_at M2
  have B3 : Below w.heap.size w (putMap (putMap (putMap (w.alloc (.map #[] 0)) w.heap.size [(Value.int .i64 11, Value.func (.func 165) #[Value.pointer (some ⟨x, 0, none⟩)] #[])]) w.heap.size [(Value.int .i64 11, Value.func (.func 165) #[Value.pointer (some ⟨x, 0, none⟩)] #[]), (Value.int .i64 12, Value.func (.func 166) #[Value.pointer (some ⟨x, 0, none⟩)] #[])]) w.heap.size [(Value.int .i64 11, Value.func (.func 165) #[Value.pointer (some ⟨x, 0, none⟩)] #[]), (Value.int .i64 12, Value.func (.func 166) #[Value.pointer (some ⟨x, 0, none⟩)] #[]), (Value.int .i64 15, Value.func (.func 167) #[Value.pointer (some ⟨x, 0, none⟩)] #[])]) := B2.trans ((putMap_but _ M2).below (B2.size) (fun k hk => by omega))
  have u4 : (Instr.mapUpdate 240 (.map (some w.heap.size)) (.int .i64 24) (Value.func (.func 168) #[Value.pointer (some ⟨x, 0, none⟩)] #[])).run Tryz.prog (putMap (putMap (putMap (w.alloc (.map #[] 0)) w.heap.size [(Value.int .i64 11, Value.func (.func 165) #[Value.pointer (some ⟨x, 0, none⟩)] #[])]) w.heap.size [(Value.int .i64 11, Value.func (.func 165) #[Value.pointer (some ⟨x, 0, none⟩)] #[]), (Value.int .i64 12, Value.func (.func 166) #[Value.pointer (some ⟨x, 0, none⟩)] #[])]) w.heap.size [(Value.int .i64 11, Value.func (.func 165) #[Value.pointer (some ⟨x, 0, none⟩)] #[]), (Value.int .i64 12, Value.func (.func 166) #[Value.pointer (some ⟨x, 0, none⟩)] #[]), (Value.int .i64 15, Value.func (.func 167) #[Value.pointer (some ⟨x, 0, none⟩)] #[])]) = .ok () (putMap (putMap (putMap (putMap (w.alloc (.map #[] 0)) w.heap.size [(Value.int .i64 11, Value.func (.func 165) #[Value.pointer (some ⟨x, 0, none⟩)] #[])]) w.heap.size [(Value.int .i64 11, Value.func (.func 165) #[Value.pointer (some ⟨x, 0, none⟩)] #[]), (Value.int .i64 12, Value.func (.func 166) #[Value.pointer (some ⟨x, 0, none⟩)] #[])]) w.heap.size [(Value.int .i64 11, Value.func (.func 165) #[Value.pointer (some ⟨x, 0, none⟩)] #[]), (Value.int .i64 12, Value.func (.func 166) #[Value.pointer (some ⟨x, 0, none⟩)] #[]), (Value.int .i64 15, Value.func (.func 167) #[Value.pointer (some ⟨x, 0, none⟩)] #[])]) w.heap.size [(Value.int .i64 11, Value.func (.func 165) #[Value.pointer (some ⟨x, 0, none⟩)] #[]), (Value.int .i64 12, Value.func (.func 166) #[Value.pointer (some ⟨x, 0, none⟩)] #[]), (Value.int .i64 15, Value.func (.func 167) #[Value.pointer (some ⟨x, 0, none⟩)] #[]), (Value.int .i64 24, Value.func (.func 168) #[Value.pointer (some ⟨x, 0, none⟩)] #[])]) := run_update_new Tryz.underlying240 M3 (check_int _) (noKey_ints _ _ [11, 12, 15] rfl (by decide))
  have M4 : MapAt (putMap (putMap (putMap (putMap (w.alloc (.map #[] 0)) w.heap.size [(Value.int .i64 11, Value.func (.func 165) #[Value.pointer (some ⟨x, 0, none⟩)] #[])]) w.heap.size [(Value.int .i64 11, Value.func (.func 165) #[Value.pointer (some ⟨x, 0, none⟩)] #[]), (Value.int .i64 12, Value.func (.func 166) #[Value.pointer (some ⟨x, 0, none⟩)] #[])]) w.heap.size [(Value.int .i64 11, Value.func (.func 165) #[Value.pointer (some ⟨x, 0, none⟩)] #[]), (Value.int .i64 12, Value.func (.func 166) #[Value.pointer (some ⟨x, 0, none⟩)] #[]), (Value.int .i64 15, Value.func (.func 167) #[Value.pointer (some ⟨x, 0, none⟩)] #[])]) w.heap.size [(Value.int .i64 11, Value.func (.func 165) #[Value.pointer (some ⟨x, 0, none⟩)] #[]), (Value.int .i64 12, Value.func (.func 166) #[Value.pointer (some ⟨x, 0, none⟩)] #[]), (Value.int .i64 15, Value.func (.func 167) #[Value.pointer (some ⟨x, 0, none⟩)] #[]), (Value.int .i64 24, Value.func (.func 168) #[Value.pointer (some ⟨x, 0, none⟩)] #[])]) w.heap.size [(Value.int .i64 11, Value.func (.func 165) #[Value.pointer (some ⟨x, 0, none⟩)] #[]), (Value.int .i64 12, Value.func (.func 166) #[Value.pointer (some ⟨x, 0, none⟩)] #[]), (Value.int .i64 15, Value.func (.func 167) #[Value.pointer (some ⟨x, 0, none⟩)] #[]), (Value.int .i64 24, Value.func (.func 168) #[Value.pointer (some ⟨x, 0, none⟩)] #[])] := putMap_at M3
  have B4 : Below w.heap.size w (putMap (putMap (putMap (putMap (w.alloc (.map #[] 0)) w.heap.size [(Value.int .i64 11, Value.func (.func 165) #[Value.pointer (some ⟨x, 0, none⟩)] #[])]) w.heap.size [(Value.int .i64 11, Value.func (.func 165) #[Value.pointer (some ⟨x, 0, none⟩)] #[]), (Value.int .i64 12, Value.func (.func 166) #[Value.pointer (some ⟨x, 0, none⟩)] #[])]) w.heap.size [(Value.int .i64 11, Value.func (.func 165) #[Value.pointer (some ⟨x, 0, none⟩)] #[]), (Value.int .i64 12, Value.func (.func 166) #[Value.pointer (some ⟨x, 0, none⟩)] #[]), (Value.int .i64 15, Value.func (.func 167) #[Value.pointer (some ⟨x, 0, none⟩)] #[])]) w.heap.size [(Value.int .i64 11, Value.func (.func 165) #[Value.pointer (some ⟨x, 0, none⟩)] #[]), (Value.int .i64 12, Value.func (.func 166) #[Value.pointer (some ⟨x, 0, none⟩)] #[]), (Value.int .i64 15, Value.func (.func 167) #[Value.pointer (some ⟨x, 0, none⟩)] #[]), (Value.int .i64 24, Value.func (.func 168) #[Value.pointer (some ⟨x, 0, none⟩)] #[])]) := B3.trans ((putMap_but _ M3).below (B3.size) (fun k hk => by omega))
  have HM := hide M4
  have HB := hide B4
  clear M0 M1 M2 M3 M4 B1 B2 B3 B4
  go_wp2
  go_ret
  exact ⟨_, rfl, Nat.le_refl _, HM.out, HB.out⟩
end Go.Proofs.YthhfakkfdohcpaaGreat
/- The analysis notes no rules. No condition. -/
namespace Go.Proofs.YthhfakkfdohcpaaGreat
open Go.RowKit
set_option maxHeartbeats 400000 in
theorem used_nil (p : Value) (w : World) : Calls Tryz.prog 130 #[p, .slice none 0 0] w fun e w' => e = .returned (.tuple #[]) ∧ Below w.heap.size w w' := by
  go_enter Tryz.func130, Tryz.ntmps130
  go_wp2
  go_rounds 1
  go_end0
  exact ⟨rfl, (by repeat (first | with_reducible exact Below.refl _ _ | with_reducible refine Below.setCell ?_ (by simp <;> omega) _ | with_reducible refine below_drewN ?_ _ | with_reducible refine Below.drew ?_ | with_reducible refine Below.alloc ?_ (by simp <;> omega) _ | with_reducible refine Below.setCell ?_ (by simp <;> omega) _ | with_reducible refine Below.alloc ?_ (by simp <;> omega) _ | omega | (simp; done)))⟩
end Go.Proofs.YthhfakkfdohcpaaGreat
