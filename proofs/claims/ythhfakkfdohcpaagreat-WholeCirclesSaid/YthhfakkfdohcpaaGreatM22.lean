/- A map of whole numbers from which entries are taken. No condition. -/
import Derived.Test.YthhfakkfdohcpaaGreatM21
namespace Go.Proofs.YthhfakkfdohcpaaGreat
open Go.RowKit Go.ChangeMaps Go.MapKept
/-- A map as it lies: its entries and its clock. -/
def ObjAt (W : World) (m : Nat) (es : List MapEntry) (c : Nat) : Prop := W.heap[m]? = some (.map es.toArray c)
theorem ObjAt.lt {W : World} {m : Nat} {es : List MapEntry} {c : Nat} (h : ObjAt W m es c) : m < W.heap.size := (Array.getElem?_eq_some_iff.1 h).1
theorem ObjAt.but {S : Nat → Prop} {W W' : World} {m : Nat} {es : List MapEntry} {c : Nat} (h : ObjAt W m es c) (hb : But S W W') (hs : ¬ S m) : ObjAt W' m es c := (hb.block m h.lt hs).trans h
theorem ObjAt.below {W W' : World} {m : Nat} {es : List MapEntry} {c : Nat} (h : ObjAt W m es c) (hb : Below W.heap.size W W') : ObjAt W' m es c := (hb.block m h.lt).trans h
theorem MapAt.obj {W : World} {m : Nat} {l : List (Value × Value)} (h : MapAt W m l) : ObjAt W m (entL l) l.length := h
def enI (k : Int) (b : Nat) : MapEntry := { key := .int .i64 k, val := .bool true, born := b }
/-- The key k among entries at whole numbers: where it lies. -/
def FindsI (es : List MapEntry) (k : Int) (r : Option (Nat × Value)) : Prop := ∀ w, (Instr.findKey 3 (.int .i64 k) es).run Tryz.prog w = .ok r w
theorem findsI_of (es : List MapEntry) (k : Int) (r : Option (Nat × Value)) (h : Instr.findNow (.int .i64) (.int .i64 k) es 0 = some r) : FindsI es k r := fun w => by
  simp [Instr.findKey, Sem.run_bind, run_underlying Tryz.underlying3 w, Result.andThen, h]
theorem run_lookup_obj {W : World} {m : Nat} {es : List MapEntry} {c : Nat} {k : Int} {r : Option (Nat × Value)} (h : ObjAt W m es c) (hf : FindsI es k r) :
    (Instr.lookup 92 (.map (some m)) (.int .i64 k) false).run Tryz.prog W = .ok (match r with | some (_, v) => v | none => .bool false) W := by
  have hg : (getObj m).run Tryz.prog W = .ok (.map es.toArray c) W := MapKept.run_getObj_map h
  have hck := check_int_any es.toArray.isEmpty k
  have hz : ∀ w, (zeroValue 4).run Tryz.prog w = .ok (.bool false) w := fun w => by kernel_rfl
  have hf := hf W
  cases r with
  | none => simp only [Instr.lookup, Sem.run_bind, run_underlying Tryz.underlying92 W, Result.andThen, hg, Sem.run_pure, hck W, hf, hz W]; rfl
  | some p => obtain ⟨j, v⟩ := p; simp only [Instr.lookup, Sem.run_bind, run_underlying Tryz.underlying92 W, Result.andThen, hg, Sem.run_pure, hck W, hf]; rfl
theorem run_delete_obj {W : World} {m : Nat} {es : List MapEntry} {c : Nat} {k : Int} {j : Nat} {v : Value} (h : ObjAt W m es c) (hf : FindsI es k (some (j, v))) (hj : j < es.length) (ty : TypeId) :
    ∃ V, (Builtin.delete_ #[92, 3] ty #[.map (some m), .int .i64 k]).run Tryz.prog W = .ok (.tuple #[]) V ∧ ObjAt V m (es.eraseIdx j) c ∧ But (fun i => i = m) W V := by
  have hg : (getObj m).run Tryz.prog W = .ok (.map es.toArray c) W := MapKept.run_getObj_map h
  have hs := fun o => MapKept.run_setObj_map (P := Tryz.prog) (w := W) (r := m) o h
  have hck := check_int_any es.isEmpty k
  have hf := hf W
  refine ⟨{ W with heap := W.heap.setIfInBounds m (.map (es.toArray.eraseIdxIfInBounds j) c) }, ?_, ?_, ?_⟩
  · simp [Builtin.delete_, Sem.run_bind, run_underlying Tryz.underlying92 W, Result.andThen, hg, hck W, hf, hs]
  · have := h.lt
    simp [ObjAt, Array.eraseIdxIfInBounds, hj, this]
  · exact ⟨rfl, rfl, rfl, by simp, fun k hk hne => by have hne' : m ≠ k := fun e => hne e.symm; simp [hne']⟩
theorem finds_12_1 : FindsI [enI 1 0, enI 2 1] 1 (some (0, .bool true)) := findsI_of _ _ _ rfl
theorem finds_2_1 : FindsI [enI 2 1] 1 none := findsI_of _ _ _ rfl
theorem finds_2_2 : FindsI [enI 2 1] 2 (some (0, .bool true)) := findsI_of _ _ _ rfl
theorem finds_nil (k : Int) : FindsI [] k none := findsI_of _ _ _ rfl
end Go.Proofs.YthhfakkfdohcpaaGreat
/- shape.Order at the definitions of the examples. No condition. -/
namespace Go.Proofs.YthhfakkfdohcpaaGreat
open Go.RowKit Go.ChangeMaps Go.MapKept
set_option maxRecDepth 100000 in
set_option maxHeartbeats 4000000 in
theorem cl64 (d : Dn) (ss : List St) (hlen : ss.length = 4) (hc0 : clF ss = []) (t m : Nat) (es : List MapEntry) (c : Nat) (r : Bool) (j : Nat) (w : World) (hf : FindsI es d.id (if r then some (j, .bool true) else none)) (hm : ObjAt w m es c) (ht : BoxAt w t [.map (some m)]) (hB : BodyAt w d.sb ss) :
    Calls Tryz.prog 64 #[.agg (dnL d).toArray, .pointer (some ⟨t, 0, none⟩)] w fun e w' => e = .returned (.bool r) ∧ Below w.heap.size w w' := by
  have hC : ∀ W', BodyAt W' d.sb ss → Calls Tryz.prog 66 #[.agg (dnL d).toArray] W' fun e w' => e = .returned (.slice none 0 0) ∧ Below W'.heap.size W' w' := fun W' hB => by
    have h := calls_any d.sb ss (by omega) d.id d.ds d.nm W' hB hc0
    rw [hlen] at h
    exact h
  go_enter Tryz.func64, Tryz.ntmps64
  simp only [dnL, dfL]
  go_upto_region 1 with (fail)
  obtain ⟨W, hW⟩ : ∃ V, V = w.alloc (.cells (dnL d).toArray 83) := ⟨_, rfl⟩
  have hb2 := BoxAt.new w (dnL d) 83
  have hbW : Below w.heap.size w (w.alloc (.cells (dnL d).toArray 83)) := (Below.refl _ w).alloc (Nat.le_refl _) _
  rw [← hW] at hb2 hbW
  simp only [dnL, dfL] at hW
  rw [← hW]
  clear hW
  have H2 := hide hb2
  have HB := hide (BoxAt.below hB hbW)
  have HbW := hide hbW
  have hm' := hm.below hbW
  have q0 : W.cell? ⟨w.heap.size, 0, none⟩ = some (.int .i64 d.id) := hb2.1 0 _ rfl
  have q1 : W.cell? ⟨t, 0, none⟩ = some (.map (some m)) := (ht.below hbW).1 0 _ rfl
  clear hb2 hB hbW hm ht
  cases r
  · have hl : (Instr.lookup 92 (.map (some m)) (.int .i64 d.id) false).run Tryz.prog W = .ok (.bool false) W := run_lookup_obj (r := none) hm' hf
    clear hf hm'
    go_wp2_with fail
    go_ret
    exact ⟨rfl, HbW.out⟩
  · have hl : (Instr.lookup 92 (.map (some m)) (.int .i64 d.id) false).run Tryz.prog W = .ok (.bool true) W := run_lookup_obj (r := some (j, .bool true)) hm' hf
    clear hf hm'
    go_wp2_with (first
      | ((with_reducible refine wpList_load_guard ?_ ?_ 83 (.tmp 2) ?_ (w.heap.size) (0) ?_ (dnL d) _ ?_ Tryz.underlying83 ?_ ?_ ?_); (focus rfl); (focus rfl); (focus rfl); (focus rfl); (focus exact H2.out.whole); (focus rfl); (focus kernel_rfl))
      | (go_at_call 66; refine (hC _ HB.out).mono ?_; rintro e w1 ⟨rfl, hb1⟩; replace HbW := hide (HbW.out.trans (hb1.mono HbW.out.size)); clear hb1)
      | (go_at_call 65; refine (Tryz.slices_ContainsFunc_empty (α := Int) _ _ _ _).mono ?_; rintro e w2 ⟨rfl, rfl⟩))
    go_ret
    exact ⟨rfl, HbW.out⟩
theorem step_delete_obj {ops : Array Oper} {o : Oper} {a : Act} {w : World} {K : Act → World → Prop} {Q : Exit → Act → World → Prop} {E : Prop} (hd : o.dst = none) (hg : o.guard = none) (x y : Operand)
    (ho : o.op = .call { callee := .builtin .delete, args := #[x, y], argTypes := #[92, 3] }) (m : Nat) (es : List MapEntry) (c : Nat) (k : Int) (j : Nat) (v : Value) (hx : a.eval x = .map (some m)) (hy : a.eval y = .int .i64 k)
    (h : ObjAt w m es c) (hf : FindsI es k (some (j, v))) (hj : j < es.length) (hK : ∀ V, ObjAt V m (es.eraseIdx j) c → But (fun i => i = m) w V → K a V) : if Region.wanted o (yielded ops a.tmps) = true then Oper.wp Tryz.prog o a w K Q else E := by
  have hw : Region.wanted o (yielded ops a.tmps) = true := by simp [Region.wanted, hg]
  rw [if_pos hw]
  obtain ⟨V, hr, hV, hT⟩ := run_delete_obj h hf hj o.type
  unfold Oper.wp
  simp only [execOp, ho, resolve, invoke, builtin, Sem.run_bind, Sem.run_pure, Result.andThen_ok, List.map_toArray, List.map_cons, List.map_nil, hx, hy, hr]
  show K (a.put o.dst _) V
  rw [hd]
  exact hK V hV hT
set_option maxRecDepth 100000 in
set_option maxHeartbeats 8000000 in
theorem ixd (d1 d2 : Dn) (ss1 ss2 : List St) (hl1 : ss1.length = 4) (hl2 : ss2.length = 4) (hc1 : clF ss1 = []) (hc2 : clF ss2 = []) (db t m : Nat) (es : List MapEntry) (c : Nat) (r1 r2 : Bool) (j1 j2 : Nat) (w : World) (hf1 : FindsI es d1.id (if r1 then some (j1, .bool true) else none)) (hf2 : FindsI es d2.id (if r2 then some (j2, .bool true) else none)) (hD : DefsAt w db d1 d2) (hm : ObjAt w m es c) (ht : BoxAt w t [.map (some m)]) (hB1 : BodyAt w d1.sb ss1) (hB2 : BodyAt w d2.sb ss2) :
    Calls Tryz.prog 68 #[.slice (some ⟨db, 0, none⟩) 2 2, .func (.func 64) #[] #[.pointer (some ⟨t, 0, none⟩)]] w fun e w' => e = .returned (.int .i64 (if r1 then 0 else if r2 then 1 else -1)) ∧ Below w.heap.size w w' := by
  have HD := hide hD; clear hD
  have HM := hide hm; clear hm
  have HT := hide ht; clear ht
  have HB1 := hide hB1; clear hB1
  have HB2 := hide hB2; clear hB2
  have HW : Hid (Below w.heap.size w w) := hide (Below.refl _ _)
  go_enter Tryz.func68, Tryz.ntmps68
  go_wp2_with fail
  refine wp_loop_rounds 3 ?_
  rw [rounds_succ]
  cases r1
  · go_wp2_with (first
      | ((with_reducible refine wpList_load_mid ?_ 83 (.tmp 14) ?_ (db) (0) ?_ (dnL d1) _ ?_ Tryz.underlying83 ?_ ?_ ?_); (focus rfl); (focus rfl); (focus rfl); (focus exact BoxAt.sub HD.out 0 (dnL d1) rfl); (focus rfl); (focus kernel_rfl))
      | (go_at_call 64; refine (cl64 d1 ss1 hl1 hc1 t m es c _ j1 _ hf1 HM.out HT.out HB1.out).mono ?_; rintro e w1 ⟨rfl, hb⟩; replace HD := hide (DefsAt.below HD.out hb); replace HM := hide (HM.out.below hb); replace HT := hide (HT.out.below hb); replace HB1 := hide (BoxAt.below HB1.out hb); replace HB2 := hide (BoxAt.below HB2.out hb); replace HW := hide (HW.out.trans (hb.mono HW.out.size)); clear hb))
    rw [rounds_succ]
    cases r2
    · go_wp2_with (first
        | ((with_reducible refine wpList_load_mid ?_ 83 (.tmp 14) ?_ (db) (12) ?_ (dnL d2) _ ?_ Tryz.underlying83 ?_ ?_ ?_); (focus rfl); (focus rfl); (focus rfl); (focus exact BoxAt.sub HD.out 12 (dnL d2) rfl); (focus rfl); (focus kernel_rfl))
        | (go_at_call 64; refine (cl64 d2 ss2 hl2 hc2 t m es c _ j2 _ hf2 HM.out HT.out HB2.out).mono ?_; rintro e w2 ⟨rfl, hb⟩; replace HD := hide (DefsAt.below HD.out hb); replace HM := hide (HM.out.below hb); replace HT := hide (HT.out.below hb); replace HB1 := hide (BoxAt.below HB1.out hb); replace HB2 := hide (BoxAt.below HB2.out hb); replace HW := hide (HW.out.trans (hb.mono HW.out.size)); clear hb))
      rw [rounds_succ]
      go_wp2_with fail
      go_ret
      exact ⟨rfl, HW.out⟩
    · go_wp2_with (first
        | ((with_reducible refine wpList_load_mid ?_ 83 (.tmp 14) ?_ (db) (12) ?_ (dnL d2) _ ?_ Tryz.underlying83 ?_ ?_ ?_); (focus rfl); (focus rfl); (focus rfl); (focus exact BoxAt.sub HD.out 12 (dnL d2) rfl); (focus rfl); (focus kernel_rfl))
        | (go_at_call 64; refine (cl64 d2 ss2 hl2 hc2 t m es c _ j2 _ hf2 HM.out HT.out HB2.out).mono ?_; rintro e w2 ⟨rfl, hb⟩; replace HD := hide (DefsAt.below HD.out hb); replace HM := hide (HM.out.below hb); replace HT := hide (HT.out.below hb); replace HB1 := hide (BoxAt.below HB1.out hb); replace HB2 := hide (BoxAt.below HB2.out hb); replace HW := hide (HW.out.trans (hb.mono HW.out.size)); clear hb))
      go_ret
      exact ⟨rfl, HW.out⟩
  · go_wp2_with (first
      | ((with_reducible refine wpList_load_mid ?_ 83 (.tmp 14) ?_ (db) (0) ?_ (dnL d1) _ ?_ Tryz.underlying83 ?_ ?_ ?_); (focus rfl); (focus rfl); (focus rfl); (focus exact BoxAt.sub HD.out 0 (dnL d1) rfl); (focus rfl); (focus kernel_rfl))
      | (go_at_call 64; refine (cl64 d1 ss1 hl1 hc1 t m es c _ j1 _ hf1 HM.out HT.out HB1.out).mono ?_; rintro e w1 ⟨rfl, hb⟩; replace HD := hide (DefsAt.below HD.out hb); replace HM := hide (HM.out.below hb); replace HT := hide (HT.out.below hb); replace HB1 := hide (BoxAt.below HB1.out hb); replace HB2 := hide (BoxAt.below HB2.out hb); replace HW := hide (HW.out.trans (hb.mono HW.out.size)); clear hb))
    go_ret
    exact ⟨rfl, HW.out⟩

end Go.Proofs.YthhfakkfdohcpaaGreat
