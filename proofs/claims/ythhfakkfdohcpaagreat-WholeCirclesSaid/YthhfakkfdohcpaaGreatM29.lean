/- The keys of a map of findings, as an iterator: inside a fence. No condition. -/
import Derived.Test.YthhfakkfdohcpaaGreatM12
import Derived.Test.YthhfakkfdohcpaaGreatM14
import Derived.Test.YthhfakkfdohcpaaGreatM26
import Derived.Test.YthhfakkfdohcpaaGreatM24
namespace Go.Proofs.YthhfakkfdohcpaaGreat
open Go.RowKit Go.Shelf Go.ChangeMaps Go.MapKept
attribute [local go_sem] Oper.semAt_some
section
variable {F : Fence} {n : Nat} {ops : Array Oper} {rest : List Oper} {o : Oper} {a : Act} {w : World} {Q : Exit → Act → World → Prop}
theorem grown_of_but {w V : World} {r : Nat} (h : But (fun x => x = r) w V) : w.grownBy V (some r) := ⟨h.os, h.tape, h.output, h.size, fun k hk hne => h.block k hk (fun e => hne (by rw [e]))⟩
theorem wpListIn_range_at {P0 : Program} (hP : P0 = Tryz.prog) (hg : o.guard = none) {T Kt Et : TypeId} (x : Operand) (ho : o.op = .range T x)
    (m : Nat) (l : List (Value × Value)) (hx : a.eval x = .map (some m)) (ht : Tryz.prog.underlying T = some (.map Kt Et)) (h : MapAt w m l)
    (hK : ∀ V, IterAt V w.heap.size m l #[] → V.heap.size = w.heap.size + 1 → Below w.heap.size w V → w.grownBy V none → wpListIn F n P0 ops Q rest (a.put o.dst (.pointer (some ⟨w.heap.size, 0, none⟩))) V) : wpListIn F n P0 ops Q (o :: rest) a w := by
  subst hP
  refine wpListIn_plain hg fun K' hK' => ?_
  have hgo : (getObj m).run Tryz.prog w = .ok (.map (entL l).toArray l.length) w := MapKept.run_getObj_map h
  have hrun : (Instr.range T (.map (some m))).run Tryz.prog w = .ok (.pointer (some ⟨w.heap.size, 0, none⟩)) (w.alloc (.mapIter (some m) l.length #[] l.length)) := by
    simp only [Instr.range, Sem.run_bind, run_underlying ht w, Result.andThen, hgo, newObj, Sem.run]
    rfl
  refine wpIn_of_value (by rw [ho]; intro c e; cases e) (by rw [ho]; intro c e; cases e) (v := .pointer (some ⟨w.heap.size, 0, none⟩)) (w' := w.alloc (.mapIter (some m) l.length #[] l.length)) ?_ (hK' _ _ (hK _ (heap_alloc_new w _) (World.size_alloc _ _) ((Below.refl _ w).alloc (Nat.le_refl _) _) (World.grownBy_alloc w _ none)))
  simp only [execOp, ho, hx, Sem.run_bind, Result.andThen, hrun, Sem.run_pure]
theorem wpListIn_next_at {P0 : Program} (hP : P0 = Tryz.prog) (hg : o.guard = none) (x : Operand) (ho : o.op = .next x false)
    (r b : Nat) (l : List (Value × Value)) (sn : Array Nat) (hx : a.eval x = .pointer (some ⟨r, 0, none⟩)) (h : IterAt w r b l sn) (hm : MapAt w b l)
    (hDone : (∀ j, j < l.length → j ∈ sn) → wpListIn F n P0 ops Q rest (a.put o.dst (.tuple #[.bool false])) w)
    (hMore : ∀ j k v w1, l[j]? = some (k, v) → j ∉ sn → IterAt w1 r b l (sn.push j) → MapAt w1 b l → But (fun x => x = r) w w1 → (Instr.entry (.pointer (some ⟨r, 0, none⟩))).run Tryz.prog w1 = .ok (.tuple #[k, v]) w1 →
      wpListIn F n P0 ops Q rest (a.put o.dst (.tuple #[.bool true, k, v])) w1) : wpListIn F n P0 ops Q (o :: rest) a w := by
  subst hP
  refine wpListIn_plain hg fun K' hK' => ?_
  rcases run_next_is w o.type r b l sn h hm with ⟨h1, hrun⟩ | ⟨j, k, v, w1, h1, h2, h3, h4, h5, hrun, h6⟩
  · refine wpIn_of_value (by rw [ho]; intro c e; cases e) (by rw [ho]; intro c e; cases e) (v := .tuple #[.bool false]) (w' := w) ?_ (hK' _ _ (hDone h1))
    simp only [execOp, ho, hx, Sem.run_bind, Result.andThen, hrun, Sem.run_pure]
  · refine wpIn_of_value (by rw [ho]; intro c e; cases e) (by rw [ho]; intro c e; cases e) (v := .tuple #[.bool true, k, v]) (w' := w1) ?_ (hK' _ _ (hMore j k v w1 h1 h2 h3 h4 h5 h6))
    simp only [execOp, ho, hx, Sem.run_bind, Result.andThen, hrun, Sem.run_pure]
end
/-- A map of findings as it lies. -/
def fiL (fs : List Tri) : List (Value × Value) := fs.map fun f => (.agg (prV f).toArray, .bool true)
theorem fiL_get {fs : List Tri} {j : Nat} {k v : Value} (h : (fiL fs)[j]? = some (k, v)) : ∃ x, fs[j]? = some x ∧ k = .agg (prV x).toArray := by
  simp only [fiL, List.getElem?_map] at h
  cases hx : fs[j]? with
  | none => rw [hx] at h; simp at h
  | some x =>
    rw [hx] at h
    simp only [Option.map_some, Option.some.injEq, Prod.mk.injEq] at h
    exact ⟨x, rfl, h.1.symm⟩
/-- What has come of the entries. -/
structure Come (fs : List Tri) (sn : Array Nat) (pre : List Tri) : Prop where
  nd : sn.toList.Nodup
  lt : ∀ j ∈ sn.toList, j < fs.length
  eq : pre = sn.toList.map (fun j => fs[j]!)
theorem Come.start (fs : List Tri) : Come fs #[] [] := ⟨by simp, by simp, rfl⟩
theorem Come.step {fs : List Tri} {sn : Array Nat} {pre : List Tri} {j : Nat} {x : Tri} (h : Come fs sn pre) (hj : fs[j]? = some x) (hn : j ∉ sn) : Come fs (sn.push j) (pre ++ [x]) := by
  have hl : j < fs.length := (List.getElem?_eq_some_iff.1 hj).1
  refine ⟨?_, ?_, ?_⟩
  · rw [Array.toList_push, List.nodup_append]
    refine ⟨h.nd, by simp, fun a ha b hb => ?_⟩
    rw [List.mem_singleton] at hb
    subst hb
    rintro rfl
    exact hn (by simpa using ha)
  · intro i hi
    rw [Array.toList_push, List.mem_append, List.mem_singleton] at hi
    rcases hi with hi | rfl
    · exact h.lt i hi
    · exact hl
  · rw [Array.toList_push, List.map_append, h.eq]
    congr 1
    simp only [List.map_cons, List.map_nil, List.cons.injEq, and_true]
    rw [List.getElem!_eq_getElem?_getD, hj]
    rfl
theorem Come.short {fs : List Tri} {sn : Array Nat} {pre : List Tri} {j : Nat} (h : Come fs sn pre) (hj : j < fs.length) (hn : j ∉ sn) : pre.length < fs.length := by
  have e : pre.length = sn.toList.length := by rw [h.eq, List.length_map]
  rw [e]
  have hnd : (j :: sn.toList).Nodup := List.nodup_cons.2 ⟨by simpa using hn, h.nd⟩
  have hsub : ∀ i ∈ (j :: sn.toList), i ∈ List.range fs.length := by
    intro i hi
    rw [List.mem_range]
    rcases List.mem_cons.1 hi with rfl | hi
    · exact hj
    · exact h.lt i hi
  have := hnd.length_le_of_subset hsub
  rw [List.length_cons, List.length_range] at this
  omega
theorem Come.all {fs : List Tri} {sn : Array Nat} {pre : List Tri} (h : Come fs sn pre) (hd : ∀ j, j < fs.length → j ∈ sn) : pre.Perm fs := by
  have hp : sn.toList.Perm (List.range fs.length) := (List.perm_ext_iff_of_nodup h.nd List.nodup_range).2 fun i => by
    rw [List.mem_range]
    exact ⟨h.lt i, fun hi => by simpa using hd i hi⟩
  rw [h.eq]
  refine (hp.map _).trans ?_
  have : (List.range fs.length).map (fun j => fs[j]!) = fs := by
    apply List.ext_getElem
    · simp
    · intro i h1 h2
      simp [h2]
  rw [this]
/-- How many entries of an iterator have come. -/
def itLeft (w : World) (r N : Nat) : Nat := match w.heap[r]? with
  | some (.mapIter _ _ sn _) => N - sn.size
  | _ => 0
theorem itLeft_at {w : World} {r b : Nat} {l : List (Value × Value)} {sn : Array Nat} (h : IterAt w r b l sn) (N : Nat) : itLeft w r N = N - sn.size := by
  unfold itLeft
  rw [show w.heap[r]? = _ from h]
theorem IterAt.walks {w w' : World} {r b : Nat} {l : List (Value × Value)} {sn : Array Nat} (h : IterAt w r b l sn) (k : KeepsWalks w w') : IterAt w' r b l sn := k.same _ _ h rfl
theorem MapAt.walks {w w' : World} {b : Nat} {l : List (Value × Value)} (h : MapAt w b l) (k : KeepsWalks w w') : MapAt w' b l := k.same _ _ h rfl
def KeyRel (fs : List Tri) (J : List Tri → World → Prop) (m r : Nat) (wr : World) : Prop := ∃ sn pre, IterAt wr r m (fiL fs) sn ∧ MapAt wr m (fiL fs) ∧ Come fs sn pre ∧ J pre wr
set_option maxRecDepth 100000 in
set_option maxHeartbeats 4000000 in
theorem fkeys1_in (F : Fence) (n : Nat) (hf : F.fn 123) (hro : F.round = none) (hn : 1 ≤ n) (l bm m : Nat) (fs : List Tri) (J Jx : List Tri → World → Prop) (W : World) (hJ : AbidesFrom W.heap.size J)
    (hY : ∀ pre x W, J pre W → pre.length < fs.length → YieldAt F (n - 1) Tryz.prog l #[.agg (prV x).toArray] W fun e W' =>
      (e = .returned (.bool true) ∧ J (pre ++ [x]) W' ∧ KeepsWalks W W') ∨ (e = .returned (.bool false) ∧ Jx (pre ++ [x]) W'))
    (hm : W.cell? ⟨bm, 0, none⟩ = some (.map (some m))) (hmap : MapAt W m (fiL fs)) (h0 : J [] W) :
    CallsIn F n Tryz.prog 123 #[.func (.yield l) #[] #[], .pointer (some ⟨bm, 0, none⟩)] W fun e W' => (∃ v, e = .returned v) ∧
      ((∃ ss, ss.Perm fs ∧ J ss W') ∨ (∃ pre, True ∧ Jx pre W')) := by
  have HY := hide hY; clear hY
  have HJ := hide hJ; clear hJ
  have HM := hide hmap; clear hmap
  have H0 := hide h0; clear h0
  refine callsIn_of_wp Tryz.func123 rfl hf ?_ hro
  simp only [Tryz.ntmps123, List.size_toArray, List.length_cons, List.length_nil, Nat.reduceAdd, Nat.reduceSub, Array.replicate_succ, Array.replicate_zero, List.push_toArray, List.append_toArray, List.nil_append, List.cons_append]
  gi_wp2_with (first
    | ((with_reducible refine wpListIn_range_at ?_ ?_ (.tmp 4) ?_ m (fiL fs) ?_ Tryz.underlying152 HM.out ?_); (focus rfl); (focus rfl); (focus rfl); (focus rfl); intro V hit hzV hbV hgV; have HI := hide hit; have HMV := hide (MapAt.below HM.out hbV); have HJV := hide (HJ.out [] W V none H0.out hgV (fun r e => by cases e)); clear hit hzV hbV hgV))
  go_frame
  gi_loopw [3] (fun _ wr => KeyRel fs J m W.heap.size wr) (fun _ wr => itLeft wr W.heap.size fs.length)
  case atStart => exact ⟨#[], [], HI.out, HMV.out, Come.start fs, HJV.out⟩
  case round =>
    obtain ⟨sn, pre, hI, hM, hC, hJs⟩ := hrel
    have HIr := hide hI
    have HMr := hide hM
    have HCr := hide hC
    have HJr := hide hJs
    clear hI hM hC hJs
    gi_wp2_with (first
      | ((with_reducible refine wpListIn_next_at ?_ ?_ (.tmp 5) ?_ W.heap.size m (fiL fs) sn ?_ HIr.out HMr.out ?_ ?_); (focus rfl); (focus rfl); (focus rfl); (focus rfl); skip))
    · intro hall
      gi_wp2
      go_end0
      exact ⟨⟨_, rfl⟩, .inl ⟨pre, HCr.out.all (fun j hj => hall j (by simpa [fiL] using hj)), HJr.out⟩⟩
    · intro j kk vv w1 hj hnj hI1 hM1 hb1 hen
      obtain ⟨x, hx, rfl⟩ := fiL_get hj
      have HI1 := hide hI1
      have HM1 := hide hM1
      have HC1 := hide (HCr.out.step hx hnj)
      have hsh := HCr.out.short (List.getElem?_eq_some_iff.1 hx).1 hnj
      have hJ1 := HJ.out pre wr w1 (some W.heap.size) HJr.out (grown_of_but hb1) (fun r e => by cases e; exact ⟨Nat.le_refl _, _, HIr.out, rfl⟩)
      have HJ1 := hide hJ1
      have Hsz : Hid (sn.size < fs.length) := hide (by have := HCr.out.eq; rw [this, List.length_map] at hsh; simpa using hsh)
      clear hI1 hM1 hb1 hj hJ1
      gi_upto_region 3 with (first
        | ((with_reducible refine wpListIn_store_raw ?_ ?_ ?_ 54 (.tmp 3) (.tmp 9) ?_ (prV x) ?_ ?_ ?_ ?_ ?_ ?_); (focus rfl); (focus rfl); (focus rfl); (focus rfl); (focus rfl); (focus rfl); (focus rfl); (focus kernel_rfl); (focus exact tri_one x); intro V3 hV3 hzV3 hbV3 hkV3; have HV3 := hide hV3; have HbV3 := hide hbV3; have HkV3 := hide hkV3; clear hV3 hzV3 hbV3 hkV3))
      replace HI1 := hide (HI1.out.walks HkV3.out.walks)
      replace HM1 := hide (HM1.out.walks HkV3.out.walks)
      have HJ3 := hide (J_new HJ.out HJ1.out HbV3.out)
      have HB3 := hide HV3.out.box
      obtain ⟨fn, tmps, assign, body, hy, hR⟩ := HY.out pre x V3 HJ3.out hsh
      gi_wp2_with (first
        | ((with_reducible refine wpListIn_load_mid ?_ ?_ 54 (.tmp 3) ?_ w1.heap.size 0 ?_ (prV x) _ ?_ Tryz.underlying54 ?_ ?_ ?_); (focus rfl); (focus rfl); (focus rfl); (focus rfl); (focus exact HB3.out.whole); (focus rfl); (focus kernel_rfl)))
      refine hR.mono ?_
      clear hR
      rintro e W3 (⟨rfl, hJ3, hk3⟩ | ⟨rfl, hx3⟩)
      · have HJn := hide hJ3
        have Hkn := hide hk3
        clear hJ3 hk3
        gi_wp2
        go_roundw
        case rel => exact ⟨_, _, HI1.out.walks Hkn.out, HM1.out.walks Hkn.out, HC1.out, HJn.out⟩
        case measure =>
          rw [itLeft_at (HI1.out.walks Hkn.out), itLeft_at HIr.out, Array.size_push]
          have := Hsz.out
          omega
      · have Hx3 := hide hx3
        clear hx3
        gi_wp2
        refine bodyPost_ret (results_none rfl _ _ _) rfl ?_
        exact ⟨⟨_, rfl⟩, .inr ⟨_, trivial, Hx3.out⟩⟩
theorem fkeys_stops (F : Fence) (n : Nat) (hf : F.fn 123) (hro : F.round = none) (hn : 1 ≤ n) (bm m : Nat) (fs : List Tri) (w : World) (hbm : bm < w.heap.size) (hm : w.cell? ⟨bm, 0, none⟩ = some (.map (some m))) (hmap : MapAt w m (fiL fs)) :
    SeqStopsK F n Tryz.prog 123 #[.pointer (some ⟨bm, 0, none⟩)] (fun x : Tri => #[Value.agg (prV x).toArray]) KeepsWalks (fun ys => ys.Perm fs) (fun _ => True) fs.length w := fun l J Jx W hW hJ _ hY h0 =>
  fkeys1_in F n hf hro hn l bm m fs J Jx W hJ hY ((hW.cell (p := ⟨bm, 0, none⟩) hbm).trans hm) (hmap.below hW) h0
end Go.Proofs.YthhfakkfdohcpaaGreat
/- The keys of a map of findings, collected and sorted. No condition. -/
namespace Go.Proofs.YthhfakkfdohcpaaGreat
open Go.RowKit Go.Shelf Go.ChangeMaps Go.MapKept
attribute [local go_sem] Oper.semAt_some
theorem elemFind : ElemOf 33 54 3 24 := ⟨Tryz.underlying33, by kernel_rfl, by omega, by omega⟩
/-- Behind an append and the store of its result into a variable. -/
theorem appended2 {W w1 : World} {n₀ B : Nat} {t e : TypeId} {size : Nat} {v v' : Value} {k m : Nat} {xs ys : List Value}
    (hv : Boxed W B t v) (hte : t ≠ e) (hrow : W.ownsRow n₀ e size v k xs) (hn₀ : n₀ ≤ W.heap.size) (hB : n₀ ≤ B)
    (hown' : w1.ownsRow n₀ e size v' m ys) (hgrow : W.grownBy w1 v.ownBlock) :
    Boxed w1 B t v ∧ Boxed (w1.setCell ⟨B, 0, none⟩ v') B t v' ∧ (w1.setCell ⟨B, 0, none⟩ v').ownsRow n₀ e size v' m ys ∧ KeepsOthers W (w1.setCell ⟨B, 0, none⟩ v') ∧ Below n₀ W (w1.setCell ⟨B, 0, none⟩ v') := by
  have hv1 : Boxed w1 B t v := hv.kept hgrow (hv.not_row hte hrow)
  refine ⟨hv1, hv1.set v', hown'.kept (grownBy_setCell' w1 B v') (.inr (hv1.not_row hte hown').symm), ?_, ?_⟩
  · refine (KeepsOthers.of_grownBy hgrow fun j o ej hj => ?_).trans (KeepsOthers.setCell _ _ _)
    rcases hrow.2 with ⟨rfl, _⟩ | ⟨g, cap, cur, rfl, _, hgb, _⟩
    · simp [Value.ownBlock] at ej
    · obtain rfl : g = j := by simpa [Value.ownBlock] using ej
      rw [hgb] at hj; cases hj; rfl
  · refine ((Below.refl n₀ W).grown hgrow hn₀ fun j ej => ?_).setCell (p := ⟨B, 0, none⟩) hB v'
    rcases hrow.2 with ⟨rfl, _⟩ | ⟨g, cap, cur, rfl, hb, _, _⟩
    · simp [Value.ownBlock] at ej
    · obtain rfl : g = j := by simpa [Value.ownBlock] using ej
      exact hb
theorem own_new {w w' : World} {B size n : Nat} {e : TypeId} {v : Value} {xs : List Value} (h : w.ownsRow B e size v n xs) (hb : Below w.heap.size w w') : w'.ownsRow B e size v n xs := by
  obtain ⟨hl, h0 | ⟨g, cap, cur, rfl, hg, hh, hr⟩⟩ := h
  · exact ⟨hl, .inl h0⟩
  · exact ⟨hl, .inr ⟨g, cap, cur, rfl, hg, by rw [hb.block g (Array.getElem?_eq_some_iff.1 hh).1]; exact hh, hr⟩⟩
theorem grown_of_apd {w w' : World} {v : Value} (h : But (fun k => v.ownBlock = some k) w w') : w.grownBy w' v.ownBlock := ⟨h.os, h.tape, h.output, h.size, fun k hk hne => h.block k hk (fun e => hne e.symm)⟩
def SeqTo (w : World) (fs : List Tri) (e : Ending) (w' : World) : Prop := ∃ (v : Value) (ss : List Tri), e = .returned v ∧ ss.Perm fs ∧ w'.ownsRow w.heap.size 54 3 v ss.length (ss.flatMap prV) ∧ Below w.heap.size w w'
theorem prs_snoc (pre : List Tri) (x : Tri) : (pre ++ [x]).flatMap prV = pre.flatMap prV ++ prV x := by simp
set_option maxRecDepth 100000 in
set_option maxHeartbeats 4000000 in
theorem appseq_in (F : Fence) (n : Nat) (h148 : F.fn 148) (hf : F.fn 123) (hro : F.round = none) (hn : 2 ≤ n) (bm m : Nat) (fs : List Tri) (hfs : fs.length ≤ 100) (w : World) (hbm : bm < w.heap.size) (hm : w.cell? ⟨bm, 0, none⟩ = some (.map (some m))) (hmap : MapAt w m (fiL fs)) :
    CallsIn F n Tryz.prog 148 #[.slice none 0 0, .func (.func 123) #[] #[.pointer (some ⟨bm, 0, none⟩)]] w (SeqTo w fs) := by
  have h1 : 1 ≤ n := by omega
  refine callsIn_of_wp_marks Tryz.func148 rfl h148 ?_ hro
  simp only [Tryz.ntmps148, List.size_toArray, List.length_cons, List.length_nil, Nat.reduceAdd, Nat.reduceSub, Array.replicate_succ, Array.replicate_zero, List.push_toArray, List.append_toArray, List.nil_append, List.cons_append]
  gi_wp2
  obtain ⟨W0, hW0⟩ : ∃ V, V = w.alloc (.cells #[.slice none 0 0] 33) := ⟨_, rfl⟩
  have bO : Boxed W0 w.heap.size 33 (.slice none 0 0) := by
    rw [hW0]
    exact Boxed.new w 33 (.slice none 0 0)
  have hbW : Below w.heap.size w W0 := by rw [hW0]; exact (Below.refl _ w).alloc (Nat.le_refl _) _
  have hz : W0.heap.size = w.heap.size + 1 := by rw [hW0]; simp
  rw [← hW0]
  clear hW0
  refine wpIn_rangeFunc_ownH hro h1 (gf := 123) (lb := #[.pointer (some ⟨bm, 0, none⟩)]) rfl hf (enters_of Tryz.func123 (by kernel_rfl) rfl)
    (fkeys_stops F (n - 1) hf hro (by omega) bm m fs W0 (by omega) ((hbW.cell (p := ⟨bm, 0, none⟩) hbm).trans hm) (hmap.below hbW)) (fun h k => walksK_t h k) (fun W l o o' h2 h3 h4 h5 => walksK_b W l o o' h2 h3 h4 h5) (Below.refl _ _) (fun _ => rfl)
    (fun pre W => (∃ v, Boxed W w.heap.size 33 v ∧ W.ownsRow w.heap.size 54 3 v pre.length (pre.flatMap prV) ∧ True) ∧ Below w.heap.size w W)
    (fun _ _ _ => False)
    ?hI
    (fun _ _ _ _ _ hs _ _ => hs)
    ⟨⟨_, bO, World.ownsRow_nil _ _ _ _, trivial⟩, hbW⟩
    (fun x a' W => ∃ Bx, w.heap.size < Bx ∧ RawAt W Bx (prV x) 54 ∧ a' = { tmps := #[.slice none 0 0, .func (.func 123) #[] #[.pointer (some ⟨bm, 0, none⟩)], .pointer (some ⟨w.heap.size, 0, none⟩), undef, .slice none 0 0, .pointer (some ⟨Bx, 0, none⟩), .func (.func 123) #[] #[.pointer (some ⟨bm, 0, none⟩)], .agg (prV x).toArray, undef, undef, undef, undef, undef], defers := [] })
    ?hAx
    ?assign ?body ?done ?stop
  case hI => exact OwnFrom.and (Own.from (holdsRow_own w.heap.size w.heap.size 33 54 3 (fun pre : List Tri => pre.length) (fun pre : List Tri => pre.flatMap prV) (fun _ _ => True)) _) (ownFrom_below (Nat.le_refl _) (by omega))
  case hAx =>
    intro x a' u X Y row hs hg hr
    obtain ⟨Bx, g1, g2, g3⟩ := hs
    refine ⟨Bx, g1, (hg.block Bx (Array.getElem?_eq_some_iff.1 g2).1 (fun e' => ?_)).trans g2, g3⟩
    obtain ⟨_, o, ho, hc⟩ := hr Bx e'.symm
    rw [show X.heap[Bx]? = _ from g2] at ho
    cases ho
    cases hc
  case assign =>
    rintro l pre x W K ⟨⟨v, hv, hrow, -⟩, hB1⟩ hK
    gi_wp2_with ((with_reducible refine wpListIn_store_raw ?_ ?_ ?_ 54 (.tmp 5) (.tmp 7) ?_ (prV x) ?_ ?_ ?_ ?_ ?_ ?_); (focus rfl); (focus rfl); (focus rfl); (focus rfl); (focus rfl); (focus rfl); (focus rfl); (focus kernel_rfl); (focus exact tri_one x); intro V hV hzV hbV hkV)
    exact hK _ _ (hkV.from _) hkV.walks ⟨⟨v, (hbV.block _ hv.lt).trans hv, hrow.kept (row := none) ⟨hbV.os, hbV.tape, hbV.output, hbV.size, fun k hk _ => hbV.block k hk⟩ (by cases hb : v.ownBlock with | none => exact .inl rfl | some q => exact .inr (by simp)), trivial⟩, hB1.trans (hbV.mono hB1.size)⟩ ⟨W.heap.size, hv.lt, hV, rfl⟩
  case body =>
    rintro l pre x a' W hl ⟨r, hr⟩ ⟨⟨v, hv, hrow, -⟩, hB1⟩ ⟨Bx, hBx, hX, rfl⟩ hlt
    have hc := hv.cell
    have HX := hide hX
    have HV := hide hv
    have HR := hide hrow
    have HB := hide hB1
    clear hX hv hrow hB1 hr
    gi_wp2_with (first
      | ((with_reducible refine wpListIn_load_mid ?_ ?_ 54 (.tmp 5) ?_ Bx 0 ?_ (prV x) _ ?_ Tryz.underlying54 ?_ ?_ ?_); (focus rfl); (focus rfl); (focus rfl); (focus rfl); (focus exact HX.out.box.whole); (focus rfl); (focus kernel_rfl))
      | ((with_reducible refine wpListIn_buildSlice_one ?_ ?_ 33 54 3 24 elemFind (.tmp 9) ?_ (.agg (prV x).toArray) (prV x) ?_ ?_ ?_ ?_ ?_); (focus rfl); (focus rfl); (focus rfl); (focus rfl); (focus rfl); (focus rfl); (focus decide); intro gb Vb hVb hgVb hbVb hkVb; have HGB := hide hVb; have HbV := hide hbVb; have HkV := hide hkVb; have HVb := hide ((hbVb.block _ HV.out.lt).trans HV.out : Boxed Vb w.heap.size 33 v); have HRb := hide (own_new HR.out hbVb); clear hVb hgVb hbVb hkVb hc)
      | ((with_reducible refine wpListIn_append_to ?_ ?_ (.tmp 8) (.tmp 10) 33 54 3 24 elemFind ?_ w.heap.size v pre.length (pre.flatMap prV) ?_ HRb.out gb 1 1 (prV x) ?_ ?_ ?_ ?_ ?_ ?_ ?_ ?_); (focus rfl); (focus rfl); (focus rfl); (focus rfl); (focus rfl); (focus exact HGB.out); (focus rfl); (focus exact tri_one x); (focus omega); (focus omega); (focus exact Nat.le_trans HB.out.size HbV.out.size); intro gn cn Vc hap; obtain ⟨hv1, hv2, hr2, hk2, hb2⟩ := appended2 HVb.out (by decide) HRb.out (Nat.le_trans HB.out.size HbV.out.size) (Nat.le_refl _) hap.own (grown_of_apd hap.but); have hc1 := hv1.cell; have hf1 := hv1.frozen; have HV2 := hide hv2; have HR2 := hide hr2; have HK2 := hide hk2; have HB2 := hide hb2; clear hv1 hv2 hr2 hk2 hb2 hap))
    exact ⟨(HkV.out.trans HK2.out).from _, (HkV.out.trans HK2.out).walks, ⟨_, HV2.out, by rw [prs_snoc, List.length_append]; exact HR2.out, trivial⟩, (HB.out.trans (HbV.out.mono HB.out.size)).trans HB2.out⟩
  case done =>
    rintro D ys W hD hperm ⟨⟨v, hv, hrow, -⟩, hB1⟩ hK
    have hc := hv.cell
    gi_wp2
    refine ⟨by simp, .inl ⟨_, _, rfl, run_takeDeferred hK, ?_⟩⟩
    exact ⟨_, results_tmp rfl _ _ _, _, ys, rfl, hperm, by have h9 := ownsRow_putObj hrow (.deferred none) hK rfl; simpa using h9, hB1.trans (belowK_b (w := w) (Nat.le_refl _) W D _ _ (by omega) hK rfl rfl)⟩
  case stop =>
    rintro D c pre W _ _ h _
    exact h.elim
set_option maxHeartbeats 1000000 in
theorem collect_in (F : Fence) (n : Nat) (h121 : F.fn 121) (h148 : F.fn 148) (hf : F.fn 123) (hro : F.round = none) (hn : 3 ≤ n) (bm m : Nat) (fs : List Tri) (hfs : fs.length ≤ 100) (w : World) (hbm : bm < w.heap.size) (hm : w.cell? ⟨bm, 0, none⟩ = some (.map (some m))) (hmap : MapAt w m (fiL fs)) :
    CallsIn F n Tryz.prog 121 #[.func (.func 123) #[] #[.pointer (some ⟨bm, 0, none⟩)]] w (SeqTo w fs) := by
  refine callsIn_of_wp Tryz.func121 rfl h121 ?_ hro
  simp only [Tryz.ntmps121, List.size_toArray, List.length_cons, List.length_nil, Nat.reduceAdd, Nat.reduceSub, Array.replicate_succ, Array.replicate_zero, List.push_toArray, List.append_toArray, List.nil_append, List.cons_append]
  have ha := appseq_in F (n - 1) h148 hf hro (by omega) bm m fs hfs w hbm hm hmap
  clear hmap hm
  have h1 : 1 ≤ n := by omega
  gi_wp2_with (gi_at_call 148; refine ha.mono ?_; rintro e w' ⟨v, ss, rfl, hs, hrow, hb⟩; clear ha)
  go_ret
  exact ⟨v, ss, rfl, hs, hrow, hb⟩
theorem collect_any (bm m : Nat) (fs : List Tri) (hfs : fs.length ≤ 100) (w : World) (hbm : bm < w.heap.size) (hm : w.cell? ⟨bm, 0, none⟩ = some (.map (some m))) (hmap : MapAt w m (fiL fs)) :
    Calls Tryz.prog 121 #[.func (.func 123) #[] #[.pointer (some ⟨bm, 0, none⟩)]] w (SeqTo w fs) :=
  callsIn_wide.1 (collect_in Fence.wide 3 trivial trivial trivial rfl (Nat.le_refl _) bm m fs hfs w hbm hm hmap)
set_option maxHeartbeats 1000000 in
theorem fkeys_fn (m : Nat) (w : World) : Calls Tryz.prog 78 #[.map (some m)] w fun e w' => e = .returned (.func (.func 123) #[] #[.pointer (some ⟨w.heap.size, 0, none⟩)]) ∧ BoxAt w' w.heap.size [.map (some m)] ∧ Below w.heap.size w w' := by
  go_enter Tryz.func78, Tryz.ntmps78
  go_upto_region 1 with (fail)
  have hb := BoxAt.new w [.map (some m)] 152
  have hB : Below w.heap.size w (w.alloc (.cells [Value.map (some m)].toArray 152)) := (Below.refl _ w).alloc (Nat.le_refl _) _
  go_wp2_with fail
  go_ret
  exact ⟨rfl, hb, hB⟩
/-- The findings, each once, in their order. -/
def FinTo (w : World) (fs : List Tri) (e : Ending) (w' : World) : Prop := ∃ (A : Option Addr) (c : Nat) (rs : List Tri), e = .returned (.slice A fs.length c) ∧ rs.Perm fs ∧ Tsorted rs ∧ (0 < fs.length → ∃ g, A = some ⟨g, 0, none⟩ ∧ w.heap.size ≤ g ∧ PrsAt w' g rs) ∧ Below w.heap.size w w'
set_option maxRecDepth 100000 in
set_option maxHeartbeats 2000000 in
theorem sorted_any (bm m : Nat) (fs : List Tri) (hfs : fs.length ≤ 100) (w : World) (hbm : bm < w.heap.size) (hm : w.cell? ⟨bm, 0, none⟩ = some (.map (some m))) (hmap : MapAt w m (fiL fs)) :
    Calls Tryz.prog 77 #[.func (.func 123) #[] #[.pointer (some ⟨bm, 0, none⟩)], .func (.func 79) #[] #[]] w (FinTo w fs) := by
  have hcol := collect_any bm m fs hfs w hbm hm hmap
  clear hm hmap
  go_enter Tryz.func77, Tryz.ntmps77
  go_upto_region 2 with (go_at_call 121; refine hcol.mono ?_; rintro e w1 ⟨v, ss, rfl, hs, hrow, hb⟩; clear hcol; have HS := hide hs; have HR := hide hrow; have HB := hide hb; clear hs hrow hb)
  have hl := HS.out.length_eq
  by_cases h0 : 0 < fs.length
  · obtain ⟨g, cap, rfl, hg, hbx, hle⟩ := own_box HR.out (by omega)
    have HP := hide (show PrsAt w1 g ss from hbx)
    have Hl := hide hl
    clear hbx hl
    go_wp2_with (go_at_call 122; refine (sort_finds ss g cap w1 HP.out (by have := Hl.out; omega)).mono ?_; rintro e w2 ⟨rfl, rs, hp2, hs2, hP2, hB2⟩; have HP2 := hide hP2; have HB2 := hide hB2; have Hp2 := hide hp2; have Hs2 := hide hs2; clear hP2 hB2 hp2 hs2)
    go_ret
    exact ⟨_, _, rs, by first | rfl | (rw [Hl.out]; rfl), Hp2.out.trans HS.out, Hs2.out, fun _ => ⟨g, rfl, hg, HP2.out⟩, HB.out.trans (HB2.out.below HB.out.size (fun k hk => by omega))⟩
  · have h00 : fs = [] := List.length_eq_zero_iff.1 (by omega)
    subst h00
    have hs0 : ss = [] := List.length_eq_zero_iff.1 hl
    subst hs0
    rcases HR.out.2 with ⟨rfl, -⟩ | ⟨g, cap, cur, rfl, hg, -, -⟩
    · go_wp2_with (go_at_call 122; refine (sort_finds_none none 0 _ w1).mono ?_; rintro e w2 ⟨rfl, rfl⟩)
      go_ret
      exact ⟨_, _, [], rfl, List.Perm.refl _, List.Pairwise.nil, fun h => absurd h (by simp), HB.out⟩
    · go_wp2_with (go_at_call 122; refine (sort_finds_none (some ⟨g, 0, none⟩) cap _ w1).mono ?_; rintro e w2 ⟨rfl, rfl⟩)
      go_ret
      exact ⟨_, _, [], rfl, List.Perm.refl _, List.Pairwise.nil, fun h => absurd h (by simp), HB.out⟩
end Go.Proofs.YthhfakkfdohcpaaGreat
