/- The costs of a body of locks. No condition. -/
import Derived.Test.YthhfakkfdohcpaaGreatM07
import Derived.Test.YthhfakkfdohcpaaGreatM05
namespace Go.Proofs.YthhfakkfdohcpaaGreat
open Go.RowKit

/-- A statement of the examples: its site, kind and lock. -/
abbrev St := Int × Int × Int
def stV (s : St) : List Value := stL s.1 s.2.1 s.2.2
/-- A body as it lies. -/
def BodyAt (W : World) (sb : Nat) (ss : List St) : Prop := BoxAt W sb (ss.flatMap stV)
theorem flat_at (ss : List St) : ∀ (j : Nat) (s : St), ss[j]? = some s → ((ss.flatMap stV).drop (20 * j)).take 20 = stV s := by
  induction ss with
  | nil => intro j s h; simp at h
  | cons a ss ih =>
    intro j s h
    cases j with
    | zero =>
      simp only [List.getElem?_cons_zero, Option.some.injEq] at h
      subst h
      simp only [List.flatMap_cons, Nat.mul_zero, List.drop_zero]
      exact List.take_left' rfl
    | succ j =>
      simp only [List.getElem?_cons_succ] at h
      rw [List.flatMap_cons, show 20 * (j + 1) = (stV a).length + 20 * j by show 20 * (j + 1) = 20 + 20 * j; omega, List.drop_append]
      rw [List.drop_eq_nil_of_le (by omega), List.nil_append, Nat.add_sub_cancel_left]
      exact ih j s h
theorem BodyAt.at {W : World} {sb : Nat} {ss : List St} (h : BodyAt W sb ss) {j : Nat} {s : St} (hj : ss[j]? = some s) : W.rangeAt sb (j * 20) (stV s) := by
  rw [Nat.mul_comm]
  exact h.sub (20 * j) (stV s) (by show List.take 20 _ = _; exact flat_at ss j s hj)
theorem BodyAt.below {W W' : World} {sb : Nat} {ss : List St} (h : BodyAt W sb ss) (hb : Below W.heap.size W W') : BodyAt W' sb ss := BoxAt.below h hb
theorem box_at (w : World) (a : List Value) (t : TypeId) (W : World) (h : W = w.alloc (.cells a.toArray t)) : BoxAt W w.heap.size a ∧ W.heap.size = w.heap.size + 1 ∧ Below w.heap.size w W := by
  subst h
  exact ⟨BoxAt.new w a t, World.size_alloc _ _, (Below.refl _ w).alloc (Nat.le_refl _) _⟩
def OfRel (W : World) (n : Nat) (i t : Value) (wr : World) : Prop := ∃ j : Nat, j ≤ n ∧ i = .int .i64 j ∧ t = .int .i64 j ∧ Below W.heap.size W wr
set_option maxRecDepth 100000 in
set_option maxHeartbeats 4000000 in
theorem of_locks (ss : List St) (hss : ∀ s ∈ ss, s.2.1 = 16 ∨ s.2.1 = 17) (hlen : ss.length ≤ 100) (sb : Nat) (b : Nat → Nat) (As : Option Addr) (ns cs : Nat) (w : World) (h : BodyAt w sb ss) :
    Calls Tryz.prog 131 #[.agg #[.slice (some ⟨b 0, 0, none⟩) 2 2, .slice (some ⟨b 1, 0, none⟩) 2 2, .slice (some ⟨b 2, 0, none⟩) 1 1, .slice (some ⟨b 3, 0, none⟩) 3 3, .int .i64 3, .int .i64 3, .int .i64 2, .slice (some ⟨b 4, 0, none⟩) 2 2, .slice (some ⟨b 5, 0, none⟩) 2 2, .slice (some ⟨b 6, 0, none⟩) 2 2, .slice As ns cs], .slice (some ⟨sb, 0, none⟩) ss.length ss.length] w fun e w' => e = .returned (.int .i64 ss.length) ∧ Below w.heap.size w w' := by
  have H := hide h; clear h
  have Hss := hide hss; clear hss
  go_enter Tryz.func131, Tryz.ntmps131
  go_upto_region 1 with (fail)
  obtain ⟨W, hW⟩ : ∃ V, V = w.alloc (.cells (pgL b ++ [Value.slice As ns cs]).toArray 232) := ⟨_, rfl⟩
  have hb1 := box_at w _ _ W hW
  have hW' := hW
  simp only [pgL, List.cons_append, List.nil_append] at hW'
  rw [← hW']
  clear hW hW'
  obtain ⟨b2, hz, hbW⟩ := hb1
  have B2 := hide b2
  have H1 := hide (H.out.below hbW)
  have HbW := hide hbW
  have Hz := hide hz
  clear b2 hbW hz
  go_wp2_with fail
  go_loopw [10, 5] (fun i t wr => OfRel W ss.length i t wr) (fun i _ _ => ss.length - (intOf i).toNat)
  case atStart => exact ⟨0, by omega, rfl, rfl, Below.refl _ _⟩
  case round =>
    obtain ⟨j, hj, rfl, rfl, hbr⟩ := hrel
    have Hbr := hide hbr
    clear hbr
    by_cases hlt : j < ss.length
    · have hs : ss[j]? = some ss[j] := List.getElem?_eq_getElem hlt
      have HR := hide ((H1.out.below Hbr.out).at hs)
      have Hop := hide (Hss.out _ (List.getElem_mem hlt))
      obtain ⟨s, hs'⟩ : ∃ s, s = ss[j] := ⟨_, rfl⟩
      rw [← hs'] at HR Hop
      clear hs hs'
      obtain ⟨site, op, m⟩ := s
      have HB2 := hide (B2.out.below Hbr.out)
      go_upto_region 5 with (first
        | ((with_reducible refine wpList_load_mid ?_ 121 (.tmp 12) ?_ sb (j * 20) ?_ (stL site op m) _ ?_ Tryz.underlying121 ?_ ?_ ?_); (focus rfl); (focus rfl); (focus rfl); (focus exact HR.out); (focus rfl); (focus kernel_rfl))
        | ((with_reducible refine wpList_store_new ?_ ?_ 121 (.tmp 7) (.tmp 13) ?_ (stL site op m) ?_ ?_ ?_ ?_ ?_ ?_); (focus rfl); (focus rfl); (focus rfl); (focus rfl); (focus rfl); (focus rfl); (focus kernel_rfl); (focus (intro u hu; revert u; simp [stL, Value.oneCell'])); intro V hV hbV; have HV := hide hV; have HbV := hide hbV; clear hV hbV))
      have HB3 := hide (HB2.out.below HbV.out)
      go_wp2_with (first
        | ((with_reducible refine wpList_load_mid ?_ 121 (.tmp 7) ?_ wr.heap.size 0 ?_ (stL site op m) _ ?_ Tryz.underlying121 ?_ ?_ ?_); (focus rfl); (focus rfl); (focus rfl); (focus exact HV.out.whole); (focus rfl); (focus kernel_rfl))
        | ((with_reducible refine wpList_load_mid ?_ 232 (.tmp 2) ?_ w.heap.size 0 ?_ (pgL b ++ [Value.slice As ns cs]) _ ?_ Tryz.underlying232 ?_ ?_ ?_); (focus rfl); (focus rfl); (focus rfl); (focus exact HB3.out.whole); (focus rfl); (focus kernel_rfl))
        | (go_at_call 163; refine (inner_lock _ _ _ _ _ _ _ _ _ _ _ site op m Hop.out _).mono ?_; rintro e w1 ⟨rfl, hb1⟩; have Hb1 := hide hb1; clear hb1)
        | (go_at_call 162; refine (sum_any _ _ (by omega) _).mono ?_; rintro e w2 ⟨rfl, rfl⟩))
      go_roundw
      case rel => exact ⟨j + 1, by omega, by go_num, by go_num, (Hbr.out.trans (HbV.out.mono Hbr.out.size)).trans (Hb1.out.mono (by have := Hbr.out.size; have := HbV.out.size; omega))⟩
      case measure => simp [intOf]; omega
    · go_wp2_with fail
      go_ret
      obtain rfl : j = ss.length := by omega
      exact ⟨rfl, HbW.out.trans (Hbr.out.mono (by have := Hz.out; omega))⟩
set_option maxRecDepth 100000 in
set_option maxHeartbeats 4000000 in
theorem cost_locks (ss : List St) (hss : ∀ s ∈ ss, s.2.1 = 16 ∨ s.2.1 = 17) (hlen : ss.length ≤ 100) (sb : Nat) (b : Nat → Nat) (As : Option Addr) (ns cs : Nat) (id ds : Int) (nm : ByteArray) (w : World) (h : BodyAt w sb ss) :
    Calls Tryz.prog 98 #[.agg (pgL b).toArray, .agg (dfL id ds (.string nm) (.slice (some ⟨sb, 0, none⟩) ss.length ss.length)).toArray, .slice As ns cs] w fun e w' => e = .returned (.int .i64 ss.length) ∧ Below w.heap.size w w' := by
  have H := hide h; clear h
  have Hss := hide hss; clear hss
  go_enter Tryz.func98, Tryz.ntmps98
  simp only [pgL, dfL]
  go_upto_region 1 with (fail)
  obtain ⟨W, hW⟩ : ∃ V, V = (w.alloc (.cells (pgL b).toArray 48)).alloc (.cells (dfL id ds (.string nm) (.slice (some ⟨sb, 0, none⟩) ss.length ss.length)).toArray 83) := ⟨_, rfl⟩
  have hb1 := boxes2 w _ _ _ _ W hW
  have hW' := hW
  simp only [pgL, dfL] at hW'
  rw [← hW']
  clear hW hW'
  obtain ⟨b3, b4, hz, hbW⟩ := hb1
  have B3 := hide b3
  have k11 := b4.1 11 _ rfl
  have H1 := hide (H.out.below hbW)
  have HbW := hide hbW
  have Hz := hide hz
  clear b3 b4 hbW hz
  go_wp2_with (first
    | ((with_reducible refine wpList_load_mid ?_ 48 (.tmp 3) ?_ w.heap.size 0 ?_ (pgL b) _ ?_ Tryz.underlying48 ?_ ?_ ?_); (focus rfl); (focus rfl); (focus rfl); (focus exact B3.out.whole); (focus rfl); (focus kernel_rfl); simp only [pgL])
    | (go_at_call 131; refine (of_locks ss Hss.out hlen sb b As ns cs _ H1.out).mono ?_; rintro e w1 ⟨rfl, hb1⟩; have Hb1 := hide hb1; clear hb1))
  go_ret
  exact ⟨rfl, HbW.out.trans (Hb1.out.mono (by have := Hz.out; omega))⟩
end Go.Proofs.YthhfakkfdohcpaaGreat
/- The analysis' own drop and join, at dead facts. No condition. -/
namespace Go.Proofs.YthhfakkfdohcpaaGreat
open Go.RowKit

/-- What an analysis knows of its definition and its level, as it lies. -/
def AnD (W : World) (x : Nat) (lv id site : Int) (nm B : Value) : Prop :=
  W.cell? ⟨x, 17, none⟩ = some (.int .i64 lv) ∧ (∀ (i : Nat) v, ([.int .i64 id, .int .i64 site, nm, .int .i64 0, .int .i64 0, .slice none 0 0, .slice none 0 0, .int .i64 0, .int .i64 0, .slice none 0 0, .int .i64 100, B])[i]? = some v → W.cell? ⟨x, 19 + i, none⟩ = some v) ∧ x < W.heap.size
theorem AnD.below {W W' : World} {x : Nat} {lv id site : Int} {nm B : Value} (h : AnD W x lv id site nm B) (hb : Below W.heap.size W W') : AnD W' x lv id site nm B :=
  ⟨(hb.cell (p := ⟨x, 17, none⟩) h.2.2).trans h.1, fun i v hv => (hb.cell (p := ⟨x, 19 + i, none⟩) h.2.2).trans (h.2.1 i v hv), Nat.lt_of_lt_of_le h.2.2 hb.size⟩
theorem AnD.cells {W : World} {x : Nat} {lv id site : Int} {nm B : Value} (h : AnD W x lv id site nm B) :
    W.cell? ⟨x, 17, none⟩ = some (.int .i64 lv) ∧ W.cell? ⟨x, 19, none⟩ = some (.int .i64 id) ∧ W.cell? ⟨x, 20, none⟩ = some (.int .i64 site) ∧ W.cell? ⟨x, 21, none⟩ = some nm ∧ W.cell? ⟨x, 22, none⟩ = some (.int .i64 0) ∧ W.cell? ⟨x, 23, none⟩ = some (.int .i64 0) ∧
    W.cell? ⟨x, 24, none⟩ = some (.slice none 0 0) ∧ W.cell? ⟨x, 25, none⟩ = some (.slice none 0 0) ∧ W.cell? ⟨x, 26, none⟩ = some (.int .i64 0) ∧ W.cell? ⟨x, 27, none⟩ = some (.int .i64 0) ∧ W.cell? ⟨x, 28, none⟩ = some (.slice none 0 0) ∧ W.cell? ⟨x, 29, none⟩ = some (.int .i64 100) ∧ W.cell? ⟨x, 30, none⟩ = some B :=
  ⟨h.1, h.2.1 0 _ rfl, h.2.1 1 _ rfl, h.2.1 2 _ rfl, h.2.1 3 _ rfl, h.2.1 4 _ rfl, h.2.1 5 _ rfl, h.2.1 6 _ rfl, h.2.1 7 _ rfl, h.2.1 8 _ rfl, h.2.1 9 _ rfl, h.2.1 10 _ rfl, h.2.1 11 _ rfl⟩

set_option maxRecDepth 100000 in
set_option maxHeartbeats 4000000 in
theorem adrop_dead (x : Nat) (lv id site : Int) (nm B : Value) (w : World) (h : AnD w x lv id site nm B) :
    Calls Tryz.prog 139 #[.pointer (some ⟨x, 0, none⟩), .agg #[.bool true, .slice none 0 0, .slice none 0 0, .slice none 0 0, .slice none 0 0, .int .i64 0, .int .i64 0, .int .i64 0]] w fun e w' => e = .returned (.agg #[.bool true, .slice none 0 0, .slice none 0 0, .slice none 0 0, .slice none 0 0, .int .i64 0, .int .i64 0, .int .i64 0]) ∧ Below w.heap.size w w' := by
  have Ha := hide h; clear h
  go_enter Tryz.func139, Tryz.ntmps139
  go_upto_region 1 with (fail)
  obtain ⟨W, hW⟩ : ∃ V, V = (w.alloc (.cells ([.bool true, .slice none 0 0, .slice none 0 0, .slice none 0 0, .slice none 0 0, .int .i64 0, .int .i64 0, .int .i64 0]).toArray 164)).alloc (.cells ([.bool false, .slice none 0 0, .slice none 0 0, .slice none 0 0, .slice none 0 0, .int .i64 0, .int .i64 0, .int .i64 0]).toArray 164) := ⟨_, rfl⟩
  obtain ⟨b3, b4, hz, hbW⟩ := boxes2 w _ _ _ _ W hW
  rw [← hW]
  clear hW
  have A1 := hide (Ha.out.below hbW)
  obtain ⟨a, d0, d1, d2, d3, d4, d5, d6, d7, d8, d9, d10, d11⟩ := A1.out.cells
  obtain ⟨k0, k1, k2, k3, k4, k5, k6, k7, kf, kz⟩ := b3.eight
  have H4 := hide b4
  clear b3 b4
  go_region_with (go_at_call 117; refine (drop_dead (.bool true) lv _ id site nm B).mono ?_; rintro e w1 ⟨rfl, hb1⟩; have hB1 : Below W.heap.size W w1 := Below.trans (by first | exact Below.refl _ _ | exact (Below.refl _ W).drew) hb1; have H5 := hide (H4.out.below hB1); obtain ⟨q0, q1, q2, q3, q4, q5, q6, q7, qf, qz⟩ := H5.out.eight)
  all_goals
    go_wp2_with fail
    have hB2 : Below w.heap.size w w1 := hbW.trans (hB1.mono hbW.size)
    exact bodyPost_ret (res_fact rfl rfl (H5.out.set8 _ _ _ _ _ _ _ _)) rfl ⟨rfl, (by repeat (first | with_reducible exact hB2 | with_reducible exact Below.refl _ _ | with_reducible refine Below.setCell ?_ (by simp <;> omega) _ | with_reducible refine below_drewN ?_ _ | with_reducible refine Below.drew ?_ | with_reducible refine Below.alloc ?_ (by simp <;> omega) _ | with_reducible refine Below.setCell ?_ (by simp <;> omega) _ | with_reducible refine Below.alloc ?_ (by simp <;> omega) _ | with_reducible refine Below.setCell ?_ (by omega) _ | with_reducible refine Below.alloc ?_ (by omega) _ | omega | (simp; done)))⟩
set_option maxRecDepth 100000 in
set_option maxHeartbeats 4000000 in
theorem ajoin_dead (x : Nat) (lv id site : Int) (nm B : Value) (w : World) (h : AnD w x lv id site nm B) :
    Calls Tryz.prog 113 #[.pointer (some ⟨x, 0, none⟩), .agg #[.bool true, .slice none 0 0, .slice none 0 0, .slice none 0 0, .slice none 0 0, .int .i64 0, .int .i64 0, .int .i64 0], .agg #[.bool true, .slice none 0 0, .slice none 0 0, .slice none 0 0, .slice none 0 0, .int .i64 0, .int .i64 0, .int .i64 0]] w fun e w' => e = .returned (.agg #[.bool true, .slice none 0 0, .slice none 0 0, .slice none 0 0, .slice none 0 0, .int .i64 0, .int .i64 0, .int .i64 0]) ∧ Below w.heap.size w w' := by
  have Ha := hide h; clear h
  go_enter Tryz.func113, Tryz.ntmps113
  go_upto_region 1 with (fail)
  obtain ⟨W, hW⟩ : ∃ V, V = ((w.alloc (.cells ([.bool true, .slice none 0 0, .slice none 0 0, .slice none 0 0, .slice none 0 0, .int .i64 0, .int .i64 0, .int .i64 0]).toArray 164)).alloc (.cells ([.bool true, .slice none 0 0, .slice none 0 0, .slice none 0 0, .slice none 0 0, .int .i64 0, .int .i64 0, .int .i64 0]).toArray 164)).alloc (.cells ([.bool false, .slice none 0 0, .slice none 0 0, .slice none 0 0, .slice none 0 0, .int .i64 0, .int .i64 0, .int .i64 0]).toArray 164) := ⟨_, rfl⟩
  obtain ⟨b4, b5, b6, hz, hbW⟩ := boxes3 w _ _ _ _ _ _ W hW
  rw [← hW]
  clear hW
  have A1 := hide (Ha.out.below hbW)
  obtain ⟨k0, k1, k2, k3, k4, k5, k6, k7, kf, kz⟩ := b4.eight
  obtain ⟨m0, m1, m2, m3, m4, m5, m6, m7, mf, mz⟩ := b5.eight
  have H6 := hide b6
  clear b4 b5 b6
  go_wp2_with (first
    | (go_at_call 140; refine (join_dead _).mono ?_; rintro e w1 ⟨rfl, hb1⟩; have A2 := hide (A1.out.below hb1); have H7 := hide (H6.out.below hb1); have hB1 : Below w.heap.size w w1 := hbW.trans (hb1.mono hbW.size))
    | (go_at_call 139; refine (adrop_dead x lv id site nm B _ A2.out).mono ?_; rintro e w2 ⟨rfl, hb2⟩; have H8 := hide (H7.out.below hb2); have hB2 : Below w.heap.size w w2 := hB1.trans (hb2.mono hB1.size); obtain ⟨q0, q1, q2, q3, q4, q5, q6, q7, qf, qz⟩ := H8.out.eight))
  exact bodyPost_ret (res_fact rfl rfl (H8.out.set8 _ _ _ _ _ _ _ _)) rfl ⟨rfl, (by repeat (first | with_reducible exact hB2 | with_reducible exact Below.refl _ _ | with_reducible refine Below.setCell ?_ (by simp <;> omega) _ | with_reducible refine below_drewN ?_ _ | with_reducible refine Below.drew ?_ | with_reducible refine Below.alloc ?_ (by simp <;> omega) _ | with_reducible refine Below.setCell ?_ (by simp <;> omega) _ | with_reducible refine Below.alloc ?_ (by simp <;> omega) _ | with_reducible refine Below.setCell ?_ (by omega) _ | with_reducible refine Below.alloc ?_ (by omega) _ | omega | (simp; done)))⟩
end Go.Proofs.YthhfakkfdohcpaaGreat
