/- clear of the tail of a row of pairs. No condition. -/
import Derived.Test.YthhfakkfdohcpaaGreatM26
import Derived.Laws.IdiomCopy
namespace Go.Proofs.YthhfakkfdohcpaaGreat
open Go.RowKit Go.ChangeMaps Go.MapKept
theorem BoxAt.first {W : World} {g : Nat} {vs ws : List Value} (h : BoxAt W g (vs ++ ws)) : BoxAt W g vs :=
  ⟨fun i v hv => h.1 i v (by rw [List.getElem?_append_left (List.getElem?_eq_some_iff.1 hv).1]; exact hv), h.2.1, h.2.2⟩
theorem prs_take : ∀ (qs : List (Int × Int × Int)) (i : Nat), (qs.flatMap prV).take (i * 3) = (qs.take i).flatMap prV
  | [], i => by simp
  | q :: qs, 0 => by simp
  | q :: qs, i + 1 => by
    rw [List.flatMap_cons, show (i + 1) * 3 = (prV q).length + i * 3 by show (i + 1) * 3 = 3 + i * 3; omega, List.take_length_add_append, prs_take qs i]
    rfl
theorem zero_pair : ∀ w, (zeroValue 29).run Tryz.prog w = .ok (.agg #[.int .i64 0, .int .i64 0, .int .i64 0]) w := fun w => by kernel_rfl
theorem zeros_one (n : Nat) : ∀ v ∈ (Builtin.zeroCells #[.int .i64 0, .int .i64 0, .int .i64 0] n).toList, v.oneCell' = true := by
  intro v hv
  simp only [Builtin.zeroCells, Array.toList_map, List.mem_map] at hv
  obtain ⟨i, -, rfl⟩ := hv
  have : i % 3 = 0 ∨ i % 3 = 1 ∨ i % 3 = 2 := by omega
  show (#[Value.int .i64 0, .int .i64 0, .int .i64 0][i % 3]!).oneCell' = true
  rcases this with h | h | h <;> rw [h] <;> rfl
theorem zeros_len (n : Nat) : (Builtin.zeroCells #[.int .i64 0, .int .i64 0, .int .i64 0] n).toList.length = n * 3 := by simp [Builtin.zeroCells]
theorem run_clear_pairs (W : World) (g i m c : Nat) (qs : List (Int × Int × Int)) (h : PrsAt W g qs) (hi : i + m = qs.length) (hm : 0 < m) (ty : TypeId) :
    ∃ V, (Builtin.clear_ #[24] ty #[.slice (some ⟨g, i * 3, none⟩) m c]).run Tryz.prog W = .ok (.tuple #[]) V ∧ PrsAt V g (qs.take i) ∧ But (fun k => k = g) W V := by
  have hlen := prs_len qs
  have ht := BoxAt.there h (i * 3) (m * 3) (by omega)
  have hz := zeros_len m
  have hst := run_storeCells_cells (P := Tryz.prog) g (i * 3) (Builtin.zeroCells #[.int .i64 0, .int .i64 0, .int .i64 0] m).toList 0 W (fun j hj => (ht j (by omega)).1) (fun j hj => (ht j (by omega)).2) (zeros_one m)
  rw [Nat.add_zero] at hst
  obtain ⟨k, rfl⟩ : ∃ k, m = k + 1 := ⟨m - 1, by omega⟩
  refine ⟨W.setCells g (i * 3) (Builtin.zeroCells #[.int .i64 0, .int .i64 0, .int .i64 0] (k + 1)).toList, ?_, ?_, But.setCells (S := fun q => q = g) rfl _ _ _ (But.refl _ _)⟩
  · have e1 : (#[24] : Array TypeId)[0]? = some 24 := rfl
    have e2 : (#[Value.slice (some ⟨g, i * 3, none⟩) (k + 1) c] : Array Value)[0]? = some (.slice (some ⟨g, i * 3, none⟩) (k + 1) c) := rfl
    simp only [Builtin.clear_, e1, e2, Sem.run_bind, run_underlying Tryz.underlying24 W, Result.andThen, zero_pair W, Value.cells, hst, Sem.run_pure]
  · have := BoxAt.put h (i * 3) (Builtin.zeroCells #[.int .i64 0, .int .i64 0, .int .i64 0] (k + 1)).toList _ (by rw [hz, hlen]; omega) rfl
    have := BoxAt.first (BoxAt.first this)
    rw [prs_take] at this
    exact this
end Go.Proofs.YthhfakkfdohcpaaGreat
/- A pair stored into a row of pairs: the plain law; graph.add of no pairs. No condition. -/
namespace Go.Proofs.YthhfakkfdohcpaaGreat
open Go.RowKit Go.ChangeMaps Go.MapKept
theorem prs_drop : ∀ (qs : List (Int × Int × Int)) (i : Nat), (qs.flatMap prV).drop (i * 3) = (qs.drop i).flatMap prV
  | [], i => by simp
  | q :: qs, 0 => by simp
  | q :: qs, i + 1 => by
    rw [List.flatMap_cons, show (i + 1) * 3 = (prV q).length + i * 3 by show (i + 1) * 3 = 3 + i * 3; omega, List.drop_length_add_append, prs_drop qs i]
    rfl
theorem prs_set (qs : List (Int × Int × Int)) (i : Nat) (y : Int × Int × Int) (hi : i < qs.length) : (qs.set i y).flatMap prV = (qs.flatMap prV).take (i * 3) ++ prV y ++ (qs.flatMap prV).drop (i * 3 + (prV y).length) := by
  rw [prs_take, show i * 3 + (prV y).length = (i + 1) * 3 by show i * 3 + 3 = (i + 1) * 3; omega, prs_drop, List.set_eq_take_append_cons_drop, if_pos hi, List.flatMap_append, List.flatMap_cons, List.append_assoc]
set_option maxRecDepth 100000 in
set_option maxHeartbeats 1000000 in
theorem add_none (g : Nat) (A : Option Addr) (c : Nat) (w : World) : Calls Tryz.prog 11 #[.map (some g), .slice A 0 c] w fun e w' => e = .returned (.tuple #[]) ∧ w = w' := by
  go_enter Tryz.func11, Tryz.ntmps11
  go_wp2
  refine wp_loop_rounds 1 ?_
  rw [rounds_succ]
  go_wp2
  go_end0
  exact ⟨rfl, rfl⟩
end Go.Proofs.YthhfakkfdohcpaaGreat
/- slices.DeleteFunc at pairs. No condition. -/
namespace Go.Proofs.YthhfakkfdohcpaaGreat
open Go.RowKit Go.ChangeMaps Go.MapKept
theorem wpList_clear {P0 : Program} (hP : P0 = Tryz.prog) {ops : Array Oper} {rest : List Oper} {o : Oper} {a : Act} {w : World} {Q : Exit → Act → World → Prop} (hg : o.guard = none) (hd : o.dst = none) (x : Operand) (ho : o.op = .call { callee := .builtin .clear, args := #[x], argTypes := #[24] })
    (g i m c : Nat) (qs : List (Int × Int × Int)) (hx : a.eval x = .slice (some ⟨g, i * 3, none⟩) m c) (h : PrsAt w g qs) (hi : i + m = qs.length) (hm : 0 < m)
    (hK : ∀ V, PrsAt V g (qs.take i) → But (fun k => k = g) w V → wpList P0 ops Q rest a V) : wpList P0 ops Q (o :: rest) a w := by
  subst hP
  refine wpList_plain hg fun K' hK' => ?_
  obtain ⟨V, hrun, hV, hT⟩ := run_clear_pairs w g i m c qs h hi hm o.type
  unfold Oper.wp
  simp only [execOp, ho, resolve, invoke, builtin, Sem.run_bind, Sem.run_pure, Result.andThen_ok, List.map_toArray, List.map_cons, List.map_nil, hx, hrun]
  show K' (a.put o.dst _) V
  rw [hd]
  exact hK' _ _ (hK V hV hT)
def DelRel (qs : List (Int × Int × Int)) (p : Int × Int × Int → Bool) (g : Nat) (w : World) (i j : Nat) (wr : World) : Prop :=
  ∃ cur : List (Int × Int × Int), cur.length = qs.length ∧ i < j ∧ cur.take i = (qs.take j).filter (fun x => !p x) ∧ cur.drop j = qs.drop j ∧ PrsAt wr g cur ∧ But (fun k => k = g) w wr
set_option maxRecDepth 100000 in
set_option maxHeartbeats 8000000 in
theorem del_pairs (qs : List (Int × Int × Int)) (p : Int × Int × Int → Bool) (g cap fb : Nat) (w : World) (hn : qs.length ≤ 100) (hcap : qs.length ≤ cap) (hp : PrsAt w g qs)
    (hcl : ∀ x W, But (fun k => k = g) w W → Calls Tryz.prog 15 #[.agg (prV x).toArray, .pointer (some ⟨fb, 0, none⟩)] W fun e w' => e = .returned (.bool (p x)) ∧ Below W.heap.size W w') :
    Calls Tryz.prog 13 #[.slice (some ⟨g, 0, none⟩) qs.length cap, .func (.func 15) #[] #[.pointer (some ⟨fb, 0, none⟩)]] w fun e w' =>
      e = .returned (.slice (some ⟨g, 0, none⟩) (qs.filter (fun x => !p x)).length cap) ∧ PrsAt w' g (qs.filter (fun x => !p x)) ∧ But (fun k => k = g) w w' := by
  have HP := hide hp; clear hp
  have Hcl := hide hcl; clear hcl
  go_enter Tryz.func13, Tryz.ntmps13
  go_upto_region 2 with (go_at_call 29; refine (ixp qs p g fb cap w hn HP.out (fun x W hW => Hcl.out x W (Below.but hW _))).mono ?_; rintro e w1 ⟨hres, hb1⟩; have HB1 := hide (Below.but hb1 (fun k => k = g)); have HP1 := hide (BoxAt.below HP.out hb1); clear hb1; rcases hres with ⟨rfl, hall⟩ | ⟨j, x, rfl, hjx, hpx, hno⟩)
  · have hf : qs.filter (fun x => !p x) = qs := List.filter_eq_self.2 (fun x hx => by simp [hall x hx])
    go_wp2_with fail
    go_ret
    rw [hf]
    exact ⟨rfl, HP1.out, HB1.out⟩
  · have hne : ¬ ((j : Int) = -1) := by omega
    have hjn : j < qs.length := (List.getElem?_eq_some_iff.1 hjx).1
    go_upto_block 0 with (fail)
    go_wp2_with fail
    have hd1 : ((j : Int) == -1) = false := by simp
    try simp only [hd1]
    clear hd1
    go_loopw [6, 5] (fun a6 a5 wr => ∃ j i : Nat, j ≤ qs.length ∧ a6 = .int .i64 j ∧ a5 = .int .i64 i ∧ DelRel qs p g w i j wr) (fun a6 _ _ => qs.length - (intOf a6).toNat)
    case atStart =>
      refine ⟨j + 1, j, by omega, by go_num, rfl, qs, rfl, by omega, ?_, rfl, HP1.out, HB1.out⟩
      rw [List.take_add_one, hjx, List.filter_append]
      simp only [Option.toList_some, List.filter_cons, hpx, Bool.not_true, Bool.false_eq_true, if_false, List.filter_nil, List.append_nil]
      exact (List.filter_eq_self.2 (fun x hx => by simp [hno x hx])).symm
    case round =>
    obtain ⟨j, i, hj, rfl, rfl, cur, hlen, hij, htake, hdrop, hP, hB⟩ := hrel
    by_cases hlt : j < qs.length
    · have hqj : qs[j]? = some qs[j] := List.getElem?_eq_getElem hlt
      have hcj : cur[j]? = some qs[j] := by
        have h1 : (cur.drop j)[0]? = (qs.drop j)[0]? := by rw [hdrop]
        simpa [List.getElem?_drop, hqj] using h1
      obtain ⟨y, hy⟩ : ∃ y, y = qs[j] := ⟨_, rfl⟩
      rw [← hy] at hqj hcj
      clear hy
      have HPc := hide hP
      have HBc := hide hB
      have HR := hide (PrsAt.at hP hcj)
      have Hgl : Hid (g < wr.heap.size) := hide (BoxAt.lt0 hP)
      clear hP hB
      go_upto_region 8 with (first
        | ((with_reducible refine wpList_load_mid ?_ 29 (.tmp 24) ?_ (g) (j * 3) ?_ (prV y) _ ?_ Tryz.underlying29 ?_ ?_ ?_); (focus rfl); (focus rfl); (focus rfl); (focus exact HR.out); (focus rfl); (focus kernel_rfl))
        | ((with_reducible refine wpList_store_new ?_ ?_ 29 (.tmp 7) (.tmp 25) ?_ (prV y) ?_ ?_ ?_ ?_ ?_ ?_); (focus rfl); (focus rfl); (focus rfl); (focus rfl); (focus rfl); (focus rfl); (focus kernel_rfl); (focus exact prV_one); intro V1 hV1 hbV1; have HV1 := hide hV1; have HbV1 := hide hbV1; clear hV1 hbV1))
      replace HPc := hide (BoxAt.below HPc.out HbV1.out)
      replace HBc := hide (HBc.out.afterBelow HbV1.out)
      clear HR HbV1
      have hd1 : cur.drop (j + 1) = qs.drop (j + 1) := by have h := congrArg (List.drop 1) hdrop; simpa [List.drop_drop] using h
      have ht1 : qs.take (j + 1) = qs.take j ++ [y] := by rw [List.take_add_one, hqj]; rfl
      cases hpy : p y
      · go_wp2_with (first
          | ((with_reducible refine wpList_load_mid ?_ 29 (.tmp 7) ?_ (wr.heap.size) (0) ?_ (prV y) _ ?_ Tryz.underlying29 ?_ ?_ ?_); (focus rfl); (focus rfl); (focus rfl); (focus exact HV1.out.whole); (focus rfl); (focus kernel_rfl))
          | (go_at_call 15; refine (Hcl.out y _ HBc.out).mono ?_; rintro e w2 ⟨rfl, hb2⟩; rw [hpy]; replace HPc := hide (BoxAt.below HPc.out hb2); replace HBc := hide (HBc.out.afterBelow hb2); replace HV1 := hide (HV1.out.below hb2); clear hb2)
          | ((with_reducible refine wpList_load_mid ?_ 29 (.tmp 7) ?_ (wr.heap.size) (0) ?_ (prV y) _ ?_ Tryz.underlying29 ?_ ?_ ?_); (focus rfl); (focus rfl); (focus rfl); (focus exact HV1.out.whole); (focus rfl); (focus kernel_rfl))
          | ((with_reducible refine wpList_store_in ?_ ?_ 29 (.tmp 33) (.tmp 32) ?_ g (i * 3) (cur.flatMap prV) (prV y) ((cur.set i y).flatMap prV) ?_ ?_ ?_ ?_ ?_ ?_ ?_ ?_); (focus rfl); (focus rfl); (focus rfl); (focus rfl); (focus rfl); (focus exact HPc.out); (focus (rw [prs_len]; show i * 3 + 3 ≤ _; omega)); (focus exact prs_set cur i y (by omega)); (focus kernel_rfl); (focus exact prV_one); intro V4 hV hT; have HPd := hide hV; have HBd := hide (HBc.out.trans hT); clear hV hT))
        go_roundw
        case rel =>
          refine ⟨j + 1, i + 1, by omega, by go_num, by go_num, cur.set i y, by simpa using hlen, by omega, ?_, ?_, HPd.out, HBd.out⟩
          · rw [ht1, List.filter_append, ← htake, List.take_add_one, List.take_set_of_le (Nat.le_refl i), List.getElem?_set_self (by omega)]
            simp [hpy]
          · rw [List.drop_set_of_lt (by omega), hd1]
        case measure => simp [intOf]; omega
      · go_wp2_with (first
          | ((with_reducible refine wpList_load_mid ?_ 29 (.tmp 7) ?_ (wr.heap.size) (0) ?_ (prV y) _ ?_ Tryz.underlying29 ?_ ?_ ?_); (focus rfl); (focus rfl); (focus rfl); (focus exact HV1.out.whole); (focus rfl); (focus kernel_rfl))
          | (go_at_call 15; refine (Hcl.out y _ HBc.out).mono ?_; rintro e w2 ⟨rfl, hb2⟩; rw [hpy]; replace HPc := hide (BoxAt.below HPc.out hb2); replace HBc := hide (HBc.out.afterBelow hb2); replace HV1 := hide (HV1.out.below hb2); clear hb2))
        go_roundw
        case rel =>
          refine ⟨j + 1, i, by omega, by go_num, rfl, cur, hlen, by omega, ?_, hd1, HPc.out, HBc.out⟩
          rw [ht1, List.filter_append, ← htake]
          simp [hpy]
        case measure => simp [intOf]; omega
    · obtain rfl : j = qs.length := by omega
      rw [List.take_length] at htake
      have hil : (qs.filter fun x => !p x).length = i := by rw [← htake, List.length_take]; omega
      have HPc := hide hP
      have HBc := hide hB
      clear hP hB
      go_wp2_with (first
        | ((with_reducible refine wpList_clear ?_ ?_ ?_ (.tmp 38) ?_ g i (qs.length - i) (cap - i) cur ?_ HPc.out ?_ ?_ ?_); (focus rfl); (focus rfl); (focus rfl); (focus rfl); (focus rfl); (focus omega); (focus omega); intro V5 hV hT; have HV := hide hV; have HT := hide hT; clear hV hT))
      go_ret
      rw [hil, ← htake]
      exact ⟨rfl, HV.out, HBc.out.trans HT.out⟩
end Go.Proofs.YthhfakkfdohcpaaGreat
/- slices.Compact at pairs. No condition. -/
namespace Go.Proofs.YthhfakkfdohcpaaGreat
open Go.RowKit Go.ChangeMaps Go.MapKept Go.Shelf
theorem eq_pair (x y : Tri) (w : World) : (binOp .eql 29 (.agg (prV x).toArray) (.agg (prV y).toArray)).run Tryz.prog w = .ok (.bool (decide (x = y))) w := by
  have u3 := Tryz.underlying3
  have a3 := Tryz.isAgg3
  have z3 := Tryz.sizeOf3
  have hS : Tryz.prog.underlying 29 = some (.struct (Tryz.prog.fieldsOf 29)) := by kernel_rfl
  have hp : Tryz.prog.stoodInHeld 29 = false := by kernel_rfl
  obtain ⟨x1, x2, x3⟩ := x
  obtain ⟨y1, y2, y3⟩ := y
  simp only [prV]
  rw [run_eql_struct, show (10000 : Nat) = 9999 + 1 from rfl, run_equalIn_agg w 9999 29 _ _ hS hp]
  simp only [Program.fieldsOf, Tryz.underlying29]
  go_simp
  by_cases h1 : x1 = y1 <;> by_cases h2 : x2 = y2 <;> by_cases h3 : x3 = y3 <;> simp [h1, h2, h3]
theorem neq_pair (x y : Tri) (w : World) : (binOp .neq 29 (.agg (prV x).toArray) (.agg (prV y).toArray)).run Tryz.prog w = .ok (.bool (!decide (x = y))) w := by
  have u3 := Tryz.underlying3
  have a3 := Tryz.isAgg3
  have z3 := Tryz.sizeOf3
  have hS : Tryz.prog.underlying 29 = some (.struct (Tryz.prog.fieldsOf 29)) := by kernel_rfl
  have hp : Tryz.prog.stoodInHeld 29 = false := by kernel_rfl
  obtain ⟨x1, x2, x3⟩ := x
  obtain ⟨y1, y2, y3⟩ := y
  simp only [prV]
  rw [run_neq_struct, show (10000 : Nat) = 9999 + 1 from rfl, run_equalIn_agg w 9999 29 _ _ hS hp]
  simp only [Program.fieldsOf, Tryz.underlying29]
  go_simp
  by_cases h1 : x1 = y1 <;> by_cases h2 : x2 = y2 <;> by_cases h3 : x3 = y3 <;> simp [h1, h2, h3]
theorem exec_eql_pair {a : Act} {o : Oper} (x y : Operand) (ho : o.op = .binOp .eql 29 x y 29) (u v : Tri) (hx : a.eval x = .agg (prV u).toArray) (hy : a.eval y = .agg (prV v).toArray) (w : World) :
    (execOp a.eval o).run Tryz.prog w = .ok (.value (.bool (decide (u = v)))) w := by
  have hm : Tryz.prog.eqGuardType Tryz.prog.depth 29 = false := by kernel_rfl
  simp only [execOp, ho, hx, hy, Sem.run_bind, run_eqGuard_agg w .eql 29 x y _ _ hm, Result.andThen_ok, eq_pair, Sem.run_pure]
theorem exec_neq_pair {a : Act} {o : Oper} (x y : Operand) (ho : o.op = .binOp .neq 29 x y 29) (u v : Tri) (hx : a.eval x = .agg (prV u).toArray) (hy : a.eval y = .agg (prV v).toArray) (w : World) :
    (execOp a.eval o).run Tryz.prog w = .ok (.value (.bool (!decide (u = v)))) w := by
  have hm : Tryz.prog.eqGuardType Tryz.prog.depth 29 = false := by kernel_rfl
  simp only [execOp, ho, hx, hy, Sem.run_bind, run_eqGuard_agg w .neq 29 x y _ _ hm, Result.andThen_ok, neq_pair, Sem.run_pure]
/-- Of the first m those that are not their forerunner over again. -/
def cpt (ps : List Tri) : Nat → List Tri
  | 0 => []
  | m + 1 => cpt ps m ++ (match ps[m]? with
    | none => []
    | some y => if 0 < m ∧ ps[m - 1]? = some y then [] else [y])
theorem cpt_new {ps : List Tri} {m : Nat} {x y : Tri} (_hm : 0 < m) (hy : ps[m]? = some y) (hx : ps[m - 1]? = some x) (hne : y ≠ x) : cpt ps (m + 1) = cpt ps m ++ [y] := by
  simp only [cpt, hy, hx]
  rw [if_neg]
  rintro ⟨-, h⟩
  injection h with h
  exact hne h.symm
theorem cpt_old {ps : List Tri} {m : Nat} {x y : Tri} (hm : 0 < m) (hy : ps[m]? = some y) (hx : ps[m - 1]? = some x) (he : y = x) : cpt ps (m + 1) = cpt ps m := by
  simp only [cpt, hy, hx]
  rw [if_pos ⟨hm, by rw [he]⟩, List.append_nil]
theorem cpt_one {ps : List Tri} (h : 0 < ps.length) : cpt ps 1 = ps.take 1 := by
  have hy : ps[0]? = some ps[0] := List.getElem?_eq_getElem h
  simp only [cpt, hy]
  rw [if_neg (by omega), List.take_add_one, hy]
  rfl
/-- What Compact gives of a sorted row: the same, each once, in order. -/
theorem cpt_is {ps : List Tri} (hs : Tsorted ps) : ∀ m, m ≤ ps.length → (∀ x, x ∈ cpt ps m ↔ x ∈ ps.take m) ∧ (cpt ps m).Pairwise Tlt
  | 0, _ => by simp [cpt]
  | m + 1, hm => by
    obtain ⟨h1, h2⟩ := cpt_is hs m (by omega)
    have hy : ps[m]? = some ps[m] := List.getElem?_eq_getElem (by omega)
    have htk : ps.take (m + 1) = ps.take m ++ [ps[m]] := by rw [List.take_add_one, hy]; rfl
    unfold Tsorted at hs
    rw [List.pairwise_iff_getElem] at hs
    by_cases hc : 0 < m ∧ ps[m - 1]? = some ps[m]
    · obtain ⟨hm0, hc⟩ := hc
      rw [cpt_old hm0 hy hc rfl]
      refine ⟨fun x => ?_, h2⟩
      rw [h1, htk, List.mem_append, List.mem_singleton]
      constructor
      · exact .inl
      · rintro (h | rfl)
        · exact h
        · exact List.mem_take_iff_getElem.2 ⟨m - 1, by omega, by
            rw [List.getElem?_eq_getElem (by omega)] at hc
            injection hc⟩
    · have e : cpt ps (m + 1) = cpt ps m ++ [ps[m]] := by
        simp only [cpt, hy]
        rw [if_neg hc]
      rw [e]
      refine ⟨fun x => by rw [htk, List.mem_append, List.mem_append, h1], ?_⟩
      rw [List.pairwise_append]
      refine ⟨h2, List.pairwise_singleton _ _, fun x hx y hy' => ?_⟩
      rw [List.mem_singleton] at hy'
      subst hy'
      rw [h1] at hx
      obtain ⟨i, hi, rfl⟩ := List.mem_take_iff_getElem.1 hx
      have hi' : i < m := by omega
      rcases tlt_tri ps[i] ps[m] with h | h | h
      · exact h
      · exfalso
        apply hc
        refine ⟨by omega, ?_⟩
        rw [List.getElem?_eq_getElem (by omega)]
        congr 1
        by_cases him : i = m - 1
        · subst him
          exact h
        · have k1 := hs i (m - 1) (by omega) (by omega) (by omega)
          have k2 := hs (m - 1) m (by omega) (by omega) (by omega)
          rw [h] at k1
          rcases tlt_tri ps[m - 1] ps[m] with q | q | q
          · exact absurd q k1
          · exact q
          · exact absurd q k2
      · exact absurd h (hs i m (by omega) (by omega) hi')
theorem cpt_len (ps : List Tri) : ∀ m, (cpt ps m).length ≤ m
  | 0 => Nat.le_refl _
  | m + 1 => by
    have := cpt_len ps m
    unfold cpt
    rw [List.length_append]
    have : ((match ps[m]? with
      | none => []
      | some y => if 0 < m ∧ ps[m - 1]? = some y then [] else [y]) : List Tri).length ≤ 1 := by
      split
      · simp
      · split <;> simp
    omega
/-- How a row lies while it is compacted. -/
def CptRel (ps : List Tri) (g : Nat) (w : World) (k m : Nat) (wr : World) : Prop :=
  ∃ cur : List Tri, cur.length = ps.length ∧ k + 1 ≤ m ∧ cur.take k = cpt ps m ∧ cur.drop (m - 1) = ps.drop (m - 1) ∧ PrsAt wr g cur ∧ But (fun q => q = g) w wr
theorem wrap_nat (n : Nat) (h : n ≤ 1000000) : IntKind.i64.wrap (n : Int) = (n : Int) := by
  simp [IntKind.wrap, IntKind.bits, IntKind.signed]
  omega
theorem PrsAt.at2 {W : World} {pb : Nat} {ps : List Tri} (h : PrsAt W pb ps) {k j : Nat} {s : Tri} (hj : ps[k + j]? = some s) : W.rangeAt pb (k * 3 + j * 3) (prV s) := by
  rw [← Nat.add_mul]
  exact PrsAt.at h hj
set_option maxRecDepth 100000 in
set_option maxHeartbeats 8000000 in
theorem compact_pairs (ps : List Tri) (g cap : Nat) (w : World) (hn : ps.length ≤ 100) (hcap : ps.length ≤ cap) (hp : PrsAt w g ps) :
    Calls Tryz.prog 18 #[.slice (some ⟨g, 0, none⟩) ps.length cap] w fun e w' =>
      e = .returned (.slice (some ⟨g, 0, none⟩) (cpt ps ps.length).length cap) ∧ PrsAt w' g (cpt ps ps.length) ∧ But (fun k => k = g) w w' := by
  have HP := hide hp; clear hp
  go_enter Tryz.func18, Tryz.ntmps18
  go_upto_region 1 with (fail)
  by_cases h2 : ps.length < 2
  · go_wp2_with fail
    go_ret
    have e : cpt ps ps.length = ps := by
      by_cases h0 : ps.length = 0
      · rw [h0, List.length_eq_zero_iff.1 h0]; rfl
      · have h1 : ps.length = 1 := by omega
        rw [h1, cpt_one (by omega), ← h1, List.take_length]
    rw [e]
    exact ⟨rfl, HP.out, But.refl _ _⟩
  go_wp2_with fail
  go_loopw [3] (fun a3 wr => ∃ k : Nat, 0 < k ∧ k ≤ ps.length ∧ a3 = .int .i64 k ∧ cpt ps k = ps.take k ∧ Below w.heap.size w wr) (fun a3 _ => ps.length - (intOf a3).toNat)
  case atStart => exact ⟨1, by omega, by omega, rfl, cpt_one (by omega), Below.refl _ _⟩
  case round =>
  obtain ⟨k, hk0, hk, rfl, hck, hB⟩ := hrel
  have HP1 := hide (BoxAt.below HP.out hB)
  have HB := hide hB
  clear hB
  by_cases hlt : k < ps.length
  · have hy : ps[k]? = some ps[k] := List.getElem?_eq_getElem hlt
    have hx : ps[k - 1]? = some ps[k - 1] := List.getElem?_eq_getElem (by omega)
    obtain ⟨y, hye⟩ : ∃ y, y = ps[k] := ⟨_, rfl⟩
    obtain ⟨x, hxe⟩ : ∃ x, x = ps[k - 1] := ⟨_, rfl⟩
    rw [← hye] at hy
    rw [← hxe] at hx
    clear hye hxe
    have Hy := hide hy
    have Hx := hide hx
    clear hy hx
    have hwr : IntKind.i64.wrap ((k : Int) - 1) = ((k - 1 : Nat) : Int) := by rw [show ((k : Int) - 1) = ((k - 1 : Nat) : Int) by omega]; exact wrap_nat _ (by omega)
    have hk1 : k - 1 < ps.length := by omega
    go_upto_region 6 with (fail)
    refine wp_region_held_drew (S := fun w' => PrsAt w' g ps) (by kernel_rfl) ?_ (fun hHeld => ?_)
    · exact BoxAt.below HP1.out (Below.refl _ _).drew
    generalize hw0 : World.drew wr = z1 at hHeld ⊢
    have HB0 : Hid (Below wr.heap.size wr z1) := hide (by rw [← hw0]; exact (Below.refl _ wr).drew)
    clear hw0
    refine take_as 0 (some 16) (v := ?_) rfl rfl (by kernel_rfl) (by kernel_rfl) (by kernel_rfl) (fun _ _ _ h => h) (Or.inl ⟨by rfl, ?_⟩) (by assumption) ?_
    rotate_left 1
    · intro w2 hSw
      go_simp
      try with_reducible rfl
    try simp only [Act.put, List.setIfInBounds_toArray, List.set_cons_zero, List.set_cons_succ]
    refine take_as 1 (some 17) (v := ?_) rfl rfl (by kernel_rfl) (by kernel_rfl) (by kernel_rfl) (fun _ _ _ h => h) (Or.inl ⟨by rfl, ?_⟩) (by assumption) ?_
    rotate_left 1
    · intro w2 hSw
      go_simp
      try with_reducible rfl
    try simp only [Act.put, List.setIfInBounds_toArray, List.set_cons_zero, List.set_cons_succ]
    refine take_as 2 (some 18) (v := ?_) rfl rfl (by kernel_rfl) (by kernel_rfl) (by kernel_rfl) (fun _ _ _ h => h) (Or.inl ⟨by rfl, ?_⟩) (by assumption) ?_
    rotate_left 1
    · intro w2 hSw
      go_simp
      try with_reducible rfl
    try simp only [Act.put, List.setIfInBounds_toArray, List.set_cons_zero, List.set_cons_succ]
    refine take_as 3 (some 19) rfl rfl (by kernel_rfl) (by kernel_rfl) (by kernel_rfl) (fun _ _ _ h => h) (yieldsIf_load_mid (by rfl) 29 (.tmp 18) rfl g (k * 3) rfl (prV y) _ (fun w2 hSw => PrsAt.at hSw Hy.out) Tryz.underlying29 rfl (by kernel_rfl)) (by assumption) ?_
    try simp only [Act.put, List.setIfInBounds_toArray, List.set_cons_zero, List.set_cons_succ]
    refine take_as 4 (some 20) (v := ?_) rfl rfl (by kernel_rfl) (by kernel_rfl) (by kernel_rfl) (fun _ _ _ h => h) (Or.inl ⟨by rfl, ?_⟩) (by assumption) ?_
    rotate_left 1
    · intro w2 hSw
      go_simp
      try with_reducible rfl
    try simp only [Act.put, List.setIfInBounds_toArray, List.set_cons_zero, List.set_cons_succ]
    refine take_as 5 (some 21) (v := ?_) rfl rfl (by kernel_rfl) (by kernel_rfl) (by kernel_rfl) (fun _ _ _ h => h) (Or.inl ⟨by rfl, ?_⟩) (by assumption) ?_
    rotate_left 1
    · intro w2 hSw
      go_simp
      try with_reducible rfl
    try simp only [Act.put, List.setIfInBounds_toArray, List.set_cons_zero, List.set_cons_succ]
    refine take_as 6 (some 22) (v := ?_) rfl rfl (by kernel_rfl) (by kernel_rfl) (by kernel_rfl) (fun _ _ _ h => h) (Or.inl ⟨by rfl, ?_⟩) (by assumption) ?_
    rotate_left 1
    · intro w2 hSw
      go_simp
      try with_reducible rfl
    try simp only [Act.put, List.setIfInBounds_toArray, List.set_cons_zero, List.set_cons_succ]
    refine take_as 7 (some 23) (v := ?_) rfl rfl (by kernel_rfl) (by kernel_rfl) (by kernel_rfl) (fun _ _ _ h => h) (Or.inl ⟨by rfl, ?_⟩) (by assumption) ?_
    rotate_left 1
    · intro w2 hSw
      go_simp
      try with_reducible rfl
    try simp only [Act.put, List.setIfInBounds_toArray, List.set_cons_zero, List.set_cons_succ]
    refine take_as 8 (some 24) rfl rfl (by kernel_rfl) (by kernel_rfl) (by kernel_rfl) (fun _ _ _ h => h) (yieldsIf_load_mid (by rfl) 29 (.tmp 23) rfl g ((k - 1) * 3) rfl (prV x) _ (fun w2 hSw => PrsAt.at hSw Hx.out) Tryz.underlying29 rfl (by kernel_rfl)) (by assumption) ?_
    try simp only [Act.put, List.setIfInBounds_toArray, List.set_cons_zero, List.set_cons_succ]
    refine take_as 9 (some 25) (v := ?_) rfl rfl (by kernel_rfl) (by kernel_rfl) (by kernel_rfl) (fun _ _ _ h => h) (Or.inl ⟨by rfl, ?_⟩) (by assumption) ?_
    rotate_left 1
    · intro w2 hSw
      refine exec_eql_pair (.tmp 19) (.tmp 24) ?_ y x ?_ ?_ w2 <;> rfl
      try with_reducible rfl
    try simp only [Act.put, List.setIfInBounds_toArray, List.set_cons_zero, List.set_cons_succ]
    refine wpAnyH_done (by kernel_rfl) ?_ _
    by_cases hyx : y = x
    · have hd1 : decide (y = x) = true := by simp [hyx]
      simp only [hd1]
      clear hd1
      subst hyx
      have hko := cpt_old hk0 Hy.out Hx.out rfl
      have HPz := hide (BoxAt.below HP1.out HB0.out)
      have HBz := hide (HB.out.trans (HB0.out.mono HB.out.size))
      go_upto_block 2 with (fail)
      go_wp2_with fail
      go_loopw [5, 3] (fun a5 a3 wr => ∃ j k2 : Nat, 0 < j ∧ k + j ≤ ps.length ∧ a5 = .int .i64 j ∧ a3 = .int .i64 k2 ∧ CptRel ps g w k2 (k + j) wr) (fun a5 _ _ => ps.length - (intOf a5).toNat)
      case atStart => exact ⟨1, k, by omega, by omega, rfl, rfl, ps, rfl, by omega, by rw [hko]; exact hck.symm, rfl, HPz.out, Below.but HBz.out _⟩
      case round =>
      obtain ⟨j, k2, hj0, hj, rfl, rfl, cur, hlen, hkm, htk, hdr, hPc, hBc⟩ := hrel
      have HPc := hide hPc
      have HBc := hide hBc
      clear hPc hBc
      obtain ⟨wr2, hwr2⟩ : ∃ q, q = wr := ⟨_, rfl⟩
      rw [← hwr2] at HPc HBc ⊢
      clear hwr2
      by_cases hlt2 : k + j < ps.length
      · have hy2 : ps[k + j]? = some ps[k + j] := List.getElem?_eq_getElem hlt2
        have hx2 : ps[k + j - 1]? = some ps[k + j - 1] := List.getElem?_eq_getElem (by omega)
        obtain ⟨y2, hye⟩ : ∃ q, q = ps[k + j] := ⟨_, rfl⟩
        obtain ⟨x2, hxe⟩ : ∃ q, q = ps[k + j - 1] := ⟨_, rfl⟩
        rw [← hye] at hy2
        rw [← hxe] at hx2
        clear hye hxe
        have hc2 : cur[k + j]? = some y2 := by
          have h1 : (cur.drop (k + j - 1))[1]? = (ps.drop (k + j - 1))[1]? := by rw [hdr]
          rw [List.getElem?_drop, List.getElem?_drop, show k + j - 1 + 1 = k + j by omega, hy2] at h1
          exact h1
        have hc3 : cur[k + (j - 1)]? = some x2 := by
          have h1 : (cur.drop (k + j - 1))[0]? = (ps.drop (k + j - 1))[0]? := by rw [hdr]
          rw [List.getElem?_drop, List.getElem?_drop, Nat.add_zero, hx2] at h1
          rw [show k + (j - 1) = k + j - 1 by omega]
          exact h1
        have hdr1 : cur.drop (k + j) = ps.drop (k + j) := by
          have h := congrArg (List.drop 1) hdr
          rw [List.drop_drop, List.drop_drop, show k + j - 1 + 1 = k + j by omega] at h
          exact h
        have Hy2 := hide hy2
        have Hx2 := hide hx2
        clear hy2 hx2
        have hwr : IntKind.i64.wrap ((j : Int) - 1) = ((j - 1 : Nat) : Int) := by rw [show ((j : Int) - 1) = ((j - 1 : Nat) : Int) by omega]; exact wrap_nat _ (by omega)
        have hj1 : j < ps.length - k := by omega
        have hj2 : j - 1 < ps.length - k := by omega
        go_upto_region 11 with (fail)
        refine wp_region_held_drew (S := fun w' => PrsAt w' g cur) (by kernel_rfl) ?_ (fun hHeld => ?_)
        · exact BoxAt.below HPc.out (Below.refl _ _).drew
        generalize hw0 : World.drew wr2 = z2 at hHeld ⊢
        have HB0 : Hid (Below wr2.heap.size wr2 z2) := hide (by rw [← hw0]; exact (Below.refl _ wr2).drew)
        replace HPc := hide (BoxAt.below HPc.out HB0.out)
        replace HBc := hide (HBc.out.afterBelow HB0.out)
        clear hw0
        refine take_as 0 (some 35) (v := ?_) rfl rfl (by kernel_rfl) (by kernel_rfl) (by kernel_rfl) (fun _ _ _ h => h) (Or.inl ⟨by rfl, ?_⟩) (by assumption) ?_
        rotate_left 1
        · intro w2 hSw
          go_simp
          try with_reducible rfl
        try simp only [Act.put, List.setIfInBounds_toArray, List.set_cons_zero, List.set_cons_succ]
        refine take_as 1 (some 36) (v := ?_) rfl rfl (by kernel_rfl) (by kernel_rfl) (by kernel_rfl) (fun _ _ _ h => h) (Or.inl ⟨by rfl, ?_⟩) (by assumption) ?_
        rotate_left 1
        · intro w2 hSw
          go_simp
          try with_reducible rfl
        try simp only [Act.put, List.setIfInBounds_toArray, List.set_cons_zero, List.set_cons_succ]
        refine take_as 2 (some 37) (v := ?_) rfl rfl (by kernel_rfl) (by kernel_rfl) (by kernel_rfl) (fun _ _ _ h => h) (Or.inl ⟨by rfl, ?_⟩) (by assumption) ?_
        rotate_left 1
        · intro w2 hSw
          go_simp
          try with_reducible rfl
        try simp only [Act.put, List.setIfInBounds_toArray, List.set_cons_zero, List.set_cons_succ]
        refine take_as 3 (some 38) rfl rfl (by kernel_rfl) (by kernel_rfl) (by kernel_rfl) (fun _ _ _ h => h) (yieldsIf_load_mid (by rfl) 29 (.tmp 37) rfl g (k * 3 + j * 3) rfl (prV y2) _ (fun w2 hSw => PrsAt.at2 hSw hc2) Tryz.underlying29 rfl (by kernel_rfl)) (by assumption) ?_
        try simp only [Act.put, List.setIfInBounds_toArray, List.set_cons_zero, List.set_cons_succ]
        refine take_as 4 (some 39) (v := ?_) rfl rfl (by kernel_rfl) (by kernel_rfl) (by kernel_rfl) (fun _ _ _ h => h) (Or.inl ⟨by rfl, ?_⟩) (by assumption) ?_
        rotate_left 1
        · intro w2 hSw
          go_simp
          try with_reducible rfl
        try simp only [Act.put, List.setIfInBounds_toArray, List.set_cons_zero, List.set_cons_succ]
        refine take_as 5 (some 40) (v := ?_) rfl rfl (by kernel_rfl) (by kernel_rfl) (by kernel_rfl) (fun _ _ _ h => h) (Or.inl ⟨by rfl, ?_⟩) (by assumption) ?_
        rotate_left 1
        · intro w2 hSw
          go_simp
          try with_reducible rfl
        try simp only [Act.put, List.setIfInBounds_toArray, List.set_cons_zero, List.set_cons_succ]
        refine take_as 6 (some 41) (v := ?_) rfl rfl (by kernel_rfl) (by kernel_rfl) (by kernel_rfl) (fun _ _ _ h => h) (Or.inl ⟨by rfl, ?_⟩) (by assumption) ?_
        rotate_left 1
        · intro w2 hSw
          go_simp
          try with_reducible rfl
        try simp only [Act.put, List.setIfInBounds_toArray, List.set_cons_zero, List.set_cons_succ]
        refine take_as 7 (some 42) (v := ?_) rfl rfl (by kernel_rfl) (by kernel_rfl) (by kernel_rfl) (fun _ _ _ h => h) (Or.inl ⟨by rfl, ?_⟩) (by assumption) ?_
        rotate_left 1
        · intro w2 hSw
          go_simp
          try with_reducible rfl
        try simp only [Act.put, List.setIfInBounds_toArray, List.set_cons_zero, List.set_cons_succ]
        refine take_as 8 (some 43) rfl rfl (by kernel_rfl) (by kernel_rfl) (by kernel_rfl) (fun _ _ _ h => h) (yieldsIf_load_mid (by rfl) 29 (.tmp 42) rfl g (k * 3 + (j - 1) * 3) rfl (prV x2) _ (fun w2 hSw => PrsAt.at2 hSw hc3) Tryz.underlying29 rfl (by kernel_rfl)) (by assumption) ?_
        try simp only [Act.put, List.setIfInBounds_toArray, List.set_cons_zero, List.set_cons_succ]
        refine take_as 9 (some 44) (v := ?_) rfl rfl (by kernel_rfl) (by kernel_rfl) (by kernel_rfl) (fun _ _ _ h => h) (Or.inl ⟨by rfl, ?_⟩) (by assumption) ?_
        rotate_left 1
        · intro w2 hSw
          refine exec_neq_pair (.tmp 38) (.tmp 43) ?_ y2 x2 ?_ ?_ w2 <;> rfl
          try with_reducible rfl
        try simp only [Act.put, List.setIfInBounds_toArray, List.set_cons_zero, List.set_cons_succ]
        refine wpAnyH_done (by kernel_rfl) ?_ _
        by_cases hyx2 : y2 = x2
        · have hd2 : decide (y2 = x2) = true := by simp [hyx2]
          simp only [hd2, Bool.not_true]
          go_wp2_with fail
          go_roundw
          case rel =>
            refine ⟨j + 1, k2, by omega, by omega, by go_num, rfl, cur, hlen, by omega, ?_, ?_, HPc.out, HBc.out⟩
            · rw [show k + (j + 1) = (k + j) + 1 by omega, cpt_old (by omega) Hy2.out Hx2.out hyx2]
              exact htk
            · exact hdr1
          case measure => simp [intOf]; omega
        · have hd2 : decide (y2 = x2) = false := by simp [hyx2]
          simp only [hd2, Bool.not_false]
          go_wp2_with (first
            | ((with_reducible refine wpList_load_mid ?_ 29 (.tmp 49) ?_ g (k * 3 + j * 3) ?_ (prV y2) _ ?_ Tryz.underlying29 ?_ ?_ ?_); (focus rfl); (focus rfl); (focus rfl); (focus exact PrsAt.at2 HPc.out hc2); (focus rfl); (focus kernel_rfl))
            | ((with_reducible refine wpList_store_in ?_ ?_ 29 (.tmp 51) (.tmp 50) ?_ g (k2 * 3) (cur.flatMap prV) (prV y2) ((cur.set k2 y2).flatMap prV) ?_ ?_ ?_ ?_ ?_ ?_ ?_ ?_); (focus rfl); (focus rfl); (focus rfl); (focus rfl); (focus rfl); (focus exact HPc.out); (focus (rw [prs_len]; show k2 * 3 + 3 ≤ _; omega)); (focus exact prs_set cur k2 y2 (by omega)); (focus kernel_rfl); (focus exact prV_one); intro V4 hV hT; have HPd := hide hV; have HBd := hide (HBc.out.trans hT); clear hV hT))
          go_roundw
          case rel =>
            refine ⟨j + 1, k2 + 1, by omega, by omega, by go_num, by go_num, cur.set k2 y2, by simpa using hlen, by omega, ?_, ?_, HPd.out, HBd.out⟩
            · rw [show k + (j + 1) = (k + j) + 1 by omega, cpt_new (by omega) Hy2.out Hx2.out hyx2, List.take_add_one, List.take_set_of_le (Nat.le_refl k2), List.getElem?_set_self (by omega), htk]
              rfl
            · rw [List.drop_set_of_lt (by omega)]
              exact hdr1
          case measure => simp [intOf]; omega
      · obtain rfl : j = ps.length - k := by omega
        rw [show k + (ps.length - k) = ps.length by omega] at htk hkm
        have hil : (cpt ps ps.length).length = k2 := by rw [← htk, List.length_take]; omega
        go_wp2_with (first
          | ((with_reducible refine wpList_clear ?_ ?_ ?_ (.tmp 56) ?_ g k2 (ps.length - k2) (cap - k2) cur ?_ HPc.out ?_ ?_ ?_); (focus rfl); (focus rfl); (focus rfl); (focus rfl); (focus rfl); (focus omega); (focus omega); intro V5 hV hT; have HV := hide hV; have HT := hide hT; clear hV hT))
        go_ret
        rw [hil, ← htk]
        exact ⟨rfl, HV.out, HBc.out.trans HT.out⟩
    · have hd1 : decide (y = x) = false := by simp [hyx]
      simp only [hd1]
      go_wp2_with fail
      go_roundw
      case rel => exact ⟨k + 1, by omega, by omega, by go_num, by rw [cpt_new hk0 Hy.out Hx.out hyx, hck, List.take_add_one, Hy.out]; rfl, HB.out.trans (HB0.out.mono HB.out.size)⟩
      case measure => simp [intOf]; omega
  · obtain rfl : k = ps.length := by omega
    go_wp2_with fail
    go_ret
    rw [hck, List.take_length]
    exact ⟨rfl, HP1.out, Below.but HB.out _⟩
end Go.Proofs.YthhfakkfdohcpaaGreat
