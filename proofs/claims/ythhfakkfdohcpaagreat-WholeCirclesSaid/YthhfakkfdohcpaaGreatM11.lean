/- All statements of a body of locks, one after the other. No condition. -/
import Derived.Test.YthhfakkfdohcpaaGreatM03
import Derived.Test.YthhfakkfdohcpaaGreatM10
import Derived.Test.YthhfakkfdohcpaaGreatM06
namespace Go.Proofs.YthhfakkfdohcpaaGreat
open Go.RowKit Go.Shelf
attribute [local go_sem] Oper.semAt_some
/-- What a round keeps: what lay below n₀, and the statements that lie in boxes of their own. -/
def KpS (n₀ : Nat) (W W' : World) : Prop := Below n₀ W W' ∧ ∀ k vs, RawAt W k vs 121 → RawAt W' k vs 121
theorem KpS.refl (n₀ : Nat) (W : World) : KpS n₀ W W := ⟨Below.refl _ _, fun _ _ h => h⟩
theorem KpS.trans {n₀ : Nat} {A B C : World} (h : KpS n₀ A B) (k : KpS n₀ B C) : KpS n₀ A C := ⟨h.1.trans k.1, fun i vs hi => k.2 i vs (h.2 i vs hi)⟩
theorem kpS_b {n₀ : Nat} {w : World} (hn : n₀ ≤ w.heap.size) (W : World) (l : Nat) (o o' : Obj) (hl : w.heap.size ≤ l) (ho : W.heap[l]? = some o) (hc : o.isCells = false) (hw : o.isWalk = false) : KpS n₀ W (W.putObj l o') :=
  ⟨belowK_b hn W l o o' hl ho hc hw, fun k vs hk => by
    have hne : l ≠ k := by
      rintro rfl
      rw [show W.heap[l]? = _ from hk] at ho
      cases ho
      cases hc
    exact ((grownBy_putObj' W l o').block k (Array.getElem?_eq_some_iff.1 hk).1 (fun e => by cases e; exact hne rfl)).trans hk⟩
/-- A statement with its depth. -/
def plL (s : St) : List Value := stV s ++ [.int .i64 1]
set_option maxRecDepth 100000 in
set_option maxHeartbeats 1000000 in
theorem walk_nil_in (F : Fence) (n : Nat) (hf : F.fn 127) (hro : F.round = none) (l : Nat) (d : Int) (W : World) :
    CallsIn F n Tryz.prog 127 #[.slice none 0 0, .int .i64 d, .func (.yield l) #[] #[]] W fun e W' => e = .returned (.bool true) ∧ W = W' := by
  refine callsIn_of_wp Tryz.func127 rfl hf ?_ hro
  simp only [Tryz.ntmps127, List.size_toArray, List.length_cons, List.length_nil, Nat.reduceAdd, Nat.reduceSub, Array.replicate_succ, Array.replicate_zero, List.push_toArray, List.append_toArray, List.nil_append, List.cons_append]
  gi_wp2
  refine wpIn_loop_rounds 1 ?_
  rw [roundsIn_succ]
  gi_wp2
  go_ret
  exact ⟨rfl, rfl⟩
theorem room_any {F : Fence} (hd : F.depth = none) (k : Nat) : F.room k := fun d h => by rw [hd] at h; cases h
theorem RoundIn.anyDepth {F : Fence} (hd : F.depth = none) {m m' : Nat} {P : Program} {l : Nat} {f : FuncId} {tmps : Array Value} {assign body : Code} {w : World} {R : Ending → World → Prop}
    (h : RoundIn F m P l f tmps assign body w R) : RoundIn F m' P l f tmps assign body w R := ⟨h.1, fun c cs _ => h.2 c cs (room_any hd _)⟩
theorem YieldAt.anyDepth {F : Fence} (hd : F.depth = none) {m : Nat} (m' : Nat) {P : Program} {l : Nat} {args : Array Value} {W : World} {R : Ending → World → Prop} (h : YieldAt F m P l args W R) : YieldAt F m' P l args W R := by
  obtain ⟨fn, tmps, assign, body, hy, hR⟩ := h
  exact ⟨fn, tmps, assign, body, hy, RoundIn.anyDepth hd hR⟩
theorem stV_one (s : St) : ∀ u ∈ stV s, u.oneCell' = true := by
  intro u hu
  simp only [stV, stL, List.mem_cons, List.not_mem_nil, or_false] at hu
  rcases hu with rfl | rfl | rfl | rfl | rfl | rfl | rfl | rfl | rfl | rfl | rfl | rfl | rfl | rfl | rfl | rfl | rfl | rfl | rfl | rfl <;> rfl
theorem J_new {β : Type} {B : Nat} {J : β → World → Prop} (h : AbidesFrom B J) {s : β} {W W' : World} (hJ : J s W) (hb : Below W.heap.size W W') : J s W' :=
  h s W W' none hJ ⟨hb.os, hb.tape, hb.output, hb.size, fun k hk _ => hb.block k hk⟩ (fun r e => by cases e)
theorem BoxAt.lo {W W' : World} {g n : Nat} {vs : List Value} (h : BoxAt W g vs) (hb : Below n W W') (hg : g < n) : BoxAt W' g vs :=
  ⟨fun i v hv => (hb.cell (p := ⟨g, i, none⟩) hg).trans (h.1 i v hv), fun o => (hb.frozen (p := ⟨g, o, none⟩) hg).trans (h.2.1 o), Nat.lt_of_lt_of_le h.2.2 hb.size⟩
def WlkRel (ss : List St) (n₀ : Nat) (J : List St → World → Prop) (W : World) (i : Value) (wr : World) : Prop := ∃ k : Nat, k ≤ ss.length ∧ i = .int .i64 k ∧ J (ss.take k) wr ∧ Below n₀ W wr
set_option maxRecDepth 100000 in
set_option maxHeartbeats 4000000 in
theorem walk_fenced (F : Fence) (hd : F.depth = none) (hf : F.fn 127) (hro : F.round = none) (l n₀ sb : Nat) (ss : List St) (hlen : ss.length ≤ 100) (J Jx : List St → World → Prop) (B : Nat) (hJ : AbidesFrom B J)
    (hY : ∀ m pre x W, J pre W → pre.length < ss.length → YieldAt F m Tryz.prog l #[.agg (plL x).toArray] W fun e W' =>
      (e = .returned (.bool true) ∧ J (pre ++ [x]) W' ∧ KpS n₀ W W') ∨ (e = .returned (.bool false) ∧ Jx (pre ++ [x]) W'))
    (n : Nat) (W : World) (hB : BodyAt W sb ss) (hsb : sb < n₀) (hn₀ : n₀ ≤ W.heap.size) (h0 : J [] W) :
    CallsIn F n Tryz.prog 127 #[.slice (some ⟨sb, 0, none⟩) ss.length ss.length, .int .i64 1, .func (.yield l) #[] #[]] W fun e W' =>
      (e = .returned (.bool true) ∧ J ss W' ∧ Below n₀ W W') ∨ (e = .returned (.bool false) ∧ ∃ q, q <+: ss ∧ Jx q W') := by
  have hdd : ∀ k : Nat, (F.depth.isSome = true → 1 ≤ k) := fun k h => by rw [hd] at h; cases h
  have HB := hide hB; clear hB
  have HY := hide hY; clear hY
  have HJ := hide hJ; clear hJ
  have Hsb := hide hsb; clear hsb
  refine callsIn_of_wp Tryz.func127 rfl hf ?_ hro
  simp only [Tryz.ntmps127, List.size_toArray, List.length_cons, List.length_nil, Nat.reduceAdd, Nat.reduceSub, Array.replicate_succ, Array.replicate_zero, List.push_toArray, List.append_toArray, List.nil_append, List.cons_append]
  gi_wp2
  gi_loopw [11] (fun i wr => WlkRel ss n₀ J W i wr) (fun i _ => ss.length - (intOf i).toNat)
  case atStart => exact ⟨0, Nat.zero_le _, rfl, h0, Below.refl _ _⟩
  case round =>
    obtain ⟨k, hk, rfl, hJs, hnx⟩ := hrel
    have HJs := hide hJs
    have Hnx := hide hnx
    clear hJs hnx
    by_cases hlt : k < ss.length
    · have hs : ss[k]? = some ss[k] := List.getElem?_eq_getElem hlt
      have HR := hide (BodyAt.at (BoxAt.lo HB.out Hnx.out Hsb.out) hs)
      have HL := hide (show (ss.take k).length < ss.length by rw [List.length_take]; omega)
      have HS := hide (show ss.take (k + 1) = ss.take k ++ [ss[k]] by rw [List.take_add_one, hs]; rfl)
      obtain ⟨s, hs'⟩ : ∃ s, s = ss[k] := ⟨_, rfl⟩
      rw [← hs'] at HR HS
      clear hs hs'
      obtain ⟨site, op, m⟩ := s
      gi_upto_region 4 with (first
        | ((with_reducible refine wpListIn_load_mid ?_ ?_ 121 (.tmp 13) ?_ sb (k * 20) ?_ (stL site op m) _ ?_ Tryz.underlying121 ?_ ?_ ?_); (focus rfl); (focus rfl); (focus rfl); (focus rfl); (focus exact HR.out); (focus rfl); (focus kernel_rfl))
        | ((with_reducible refine wpListIn_store_raw ?_ ?_ ?_ 121 (.tmp 8) (.tmp 14) ?_ (stL site op m) ?_ ?_ ?_ ?_ ?_ ?_); (focus rfl); (focus rfl); (focus rfl); (focus rfl); (focus rfl); (focus rfl); (focus rfl); (focus kernel_rfl); (focus exact stV_one (site, op, m)); intro V hV hzV hbV hkV; have HV := hide hV; have HzV := hide hzV; have HbV := hide hbV; clear hV hzV hbV hkV))
      have hy0 := YieldAt.mono (HY.out (n - 1) _ (site, op, m) V (J_new HJ.out HJs.out HbV.out) HL.out) (R' := fun e W3 =>
        (e = .returned (.bool true) ∧ J (ss.take k ++ [(site, op, m)]) W3 ∧ Below n₀ V W3 ∧ W3.cell? ⟨wr.heap.size, 18, none⟩ = some (.slice none 0 0) ∧ W3.cell? ⟨wr.heap.size, 19, none⟩ = some (.slice none 0 0)) ∨ (e = .returned (.bool false) ∧ Jx (ss.take k ++ [(site, op, m)]) W3))
        (fun e W3 h => h.elim (fun ⟨h1, h2, h3⟩ => .inl ⟨h1, h2, h3.1, (h3.2 _ _ HV.out).box.1 18 _ rfl, (h3.2 _ _ HV.out).box.1 19 _ rfl⟩) .inr)
      obtain ⟨fn, tmps, assign, body, hy, hR⟩ := hy0
      have HB4 := hide HV.out.box
      gi_wp2_with (first
        | ((with_reducible refine wpListIn_load_mid ?_ ?_ 121 (.tmp 8) ?_ wr.heap.size 0 ?_ (stL site op m) _ ?_ Tryz.underlying121 ?_ ?_ ?_); (focus rfl); (focus rfl); (focus rfl); (focus rfl); (focus exact HB4.out.whole); (focus rfl); (focus kernel_rfl))
        | ((with_reducible refine wpListIn_build2 ?_ ?_ 197 0 1 (.tmp 16) (.tmp 17) ?_ (.agg (stL site op m).toArray) (.int .i64 1) (.agg (plL (site, op, m)).toArray) ?_ ?_ ?_ ?_); (focus rfl); (focus rfl); (focus rfl); (focus rfl); (focus rfl); (focus kernel_rfl)))
      refine hR.mono ?_
      clear hR
      rintro e W3 (⟨rfl, hJ3, hk3, c18, c19⟩ | ⟨rfl, hx3⟩)
      · have HJ3 := hide hJ3
        have Hk3 := hide hk3
        clear hJ3 hk3
        gi_wp2_with ((try refine ⟨hdd _, ?_⟩); gi_at_call 127; refine (walk_nil_in F _ hf hro l _ _).mono ?_; rintro e w4 ⟨rfl, rfl⟩)
        go_roundw
        case rel => exact ⟨k + 1, by omega, by go_num, by rw [HS.out]; exact HJ3.out, (Hnx.out.trans (HbV.out.mono (by have := Hnx.out.size; omega))).trans Hk3.out⟩
        case measure => simp [intOf]; omega
      · have Hx3 := hide hx3
        clear hx3
        gi_wp2
        refine ⟨rfl, _, results_tmp rfl _ _ _, ?_⟩
        exact .inr ⟨rfl, ss.take k ++ [(site, op, m)], by rw [← HS.out]; exact List.take_prefix _ _, Hx3.out⟩
    · obtain rfl : k = ss.length := by omega
      gi_wp2
      go_ret
      exact .inl ⟨rfl, by rw [List.take_length] at HJs; exact HJs.out, Hnx.out⟩
set_option maxRecDepth 100000 in
set_option maxHeartbeats 1000000 in
theorem all1_in (F : Fence) (hd : F.depth = none) (n : Nat) (h5 : F.fn 126) (hf : F.fn 127) (hro : F.round = none) (l bl bd n₀ sb : Nat) (ss : List St) (hlen : ss.length ≤ 100) (J Jx : List St → World → Prop) (B : Nat) (hJ : AbidesFrom B J)
    (hY : ∀ pre x W, J pre W → pre.length < ss.length → YieldAt F (n - 1) Tryz.prog l #[.agg (plL x).toArray] W fun e W' =>
      (e = .returned (.bool true) ∧ J (pre ++ [x]) W' ∧ KpS n₀ W W') ∨ (e = .returned (.bool false) ∧ Jx (pre ++ [x]) W'))
    (W : World) (hbl : W.cell? ⟨bl, 0, none⟩ = some (.slice (some ⟨sb, 0, none⟩) ss.length ss.length)) (hbd : W.cell? ⟨bd, 0, none⟩ = some (.int .i64 1)) (hB : BodyAt W sb ss) (hsb : sb < n₀) (hn₀ : n₀ ≤ W.heap.size) (h0 : J [] W) :
    CallsIn F n Tryz.prog 126 #[.func (.yield l) #[] #[], .pointer (some ⟨bl, 0, none⟩), .pointer (some ⟨bd, 0, none⟩)] W fun e W' => (∃ v, e = .returned v) ∧
      ((∃ ys, ys = ss ∧ J ys W') ∨ (∃ pre, pre <+: ss ∧ Jx pre W')) := by
  have hdd : ∀ k : Nat, (F.depth.isSome = true → 1 ≤ k) := fun k h => by rw [hd] at h; cases h
  have hp := walk_fenced F hd hf hro l n₀ sb ss hlen J Jx B hJ (fun m pre x W hj hl => YieldAt.anyDepth hd m (hY pre x W hj hl)) (n - 1) W hB hsb hn₀ h0
  clear hY hJ hB h0
  refine callsIn_of_wp Tryz.func126 rfl h5 ?_ hro
  simp only [Tryz.ntmps126, List.size_toArray, List.length_cons, List.length_nil, Nat.reduceAdd, Nat.reduceSub, Array.replicate_succ, Array.replicate_zero, List.push_toArray, List.append_toArray, List.nil_append, List.cons_append]
  gi_wp2_with ((try refine ⟨hdd _, ?_⟩); gi_at_call 127; refine hp.mono ?_; clear hp; rintro e W1 (⟨rfl, hJ1, _⟩ | ⟨rfl, q, hq, hx⟩))
  · go_end0
    exact ⟨⟨_, rfl⟩, .inl ⟨_, rfl, hJ1⟩⟩
  · go_end0
    exact ⟨⟨_, rfl⟩, .inr ⟨q, hq, hx⟩⟩
set_option maxHeartbeats 1000000 in
theorem all_in (F : Fence) (n : Nat) (hf : F.fn 94) (hro : F.round = none) (A : Option Addr) (k c : Nat) (w : World) :
    CallsIn F n Tryz.prog 94 #[.slice A k c, .int .i64 1] w fun e w' => e = .returned (.func (.func 126) #[] #[.pointer (some ⟨w.heap.size, 0, none⟩), .pointer (some ⟨w.heap.size + 1, 0, none⟩)]) ∧ w' = (w.alloc (.cells #[.slice A k c] 81)).alloc (.cells #[.int .i64 1] 3) := by
  refine callsIn_of_wp Tryz.func94 rfl hf ?_ hro
  simp only [Tryz.ntmps94, List.size_toArray, List.length_cons, List.length_nil, Nat.reduceAdd, Nat.reduceSub, Array.replicate_succ, Array.replicate_zero, List.push_toArray, List.append_toArray, List.nil_append, List.cons_append]
  gi_wp2
  go_ret
  exact ⟨rfl, rfl⟩
theorem all_stops (F : Fence) (hd : F.depth = none) (n : Nat) (h5 : F.fn 126) (hf : F.fn 127) (hro : F.round = none) (bl bd n₀ sb : Nat) (ss : List St) (hlen : ss.length ≤ 100) (w : World) (hbl : bl < w.heap.size) (hbd : bd < w.heap.size) (hn₀ : n₀ ≤ w.heap.size) (hsb : sb < n₀)
    (hl : w.cell? ⟨bl, 0, none⟩ = some (.slice (some ⟨sb, 0, none⟩) ss.length ss.length)) (hdp : w.cell? ⟨bd, 0, none⟩ = some (.int .i64 1)) (hB : BodyAt w sb ss) :
    SeqStopsK F n Tryz.prog 126 #[.pointer (some ⟨bl, 0, none⟩), .pointer (some ⟨bd, 0, none⟩)] (fun x : St => #[Value.agg (plL x).toArray]) (KpS n₀) (fun ys => ys = ss) (fun pre => pre <+: ss) ss.length w := fun l J Jx W hW hJ _ hY h0 =>
  all1_in F hd n h5 hf hro l bl bd n₀ sb ss hlen J Jx _ hJ hY W ((hW.cell (p := ⟨bl, 0, none⟩) hbl).trans hl) ((hW.cell (p := ⟨bd, 0, none⟩) hbd).trans hdp) (hB.below hW) hsb (Nat.le_trans hn₀ hW.size) h0
end Go.Proofs.YthhfakkfdohcpaaGreat
/- Finding a definition. No condition. -/
namespace Go.Proofs.YthhfakkfdohcpaaGreat
open Go.RowKit
/-- A definition of the examples: its number, site, name and body. -/
structure Dn where
  id : Int
  ds : Int
  nm : ByteArray
  sb : Nat
def dnL (d : Dn) : List Value := dfL d.id d.ds (.string d.nm) (.slice (some ⟨d.sb, 0, none⟩) 4 4)
def dfZ : List Value := dfL 0 0 (.string ⟨#[]⟩) (.slice none 0 0) |>.set 10 (.int .i64 0)
def DefsAt (W : World) (db : Nat) (d1 d2 : Dn) : Prop := BoxAt W db (dnL d1 ++ dnL d2)
theorem DefsAt.below {W W' : World} {db : Nat} {d1 d2 : Dn} (h : DefsAt W db d1 d2) (hb : Below W.heap.size W W') : DefsAt W' db d1 d2 := BoxAt.below h hb
theorem dnL_one {d : Dn} : ∀ u ∈ dnL d, u.oneCell' = true := by
  intro u hu
  simp only [dnL, dfL, List.mem_cons, List.not_mem_nil, or_false] at hu
  rcases hu with rfl | rfl | rfl | rfl | rfl | rfl | rfl | rfl | rfl | rfl | rfl | rfl <;> rfl
set_option maxRecDepth 100000 in
set_option maxHeartbeats 4000000 in
theorem find_one (b : Nat → Nat) (d1 d2 : Dn) (w : World) (h : DefsAt w (b 5) d1 d2) :
    Calls Tryz.prog 69 #[.agg (pgL b).toArray, .int .i64 d1.id] w fun e w' => e = .returned (.tuple #[.agg (dnL d1).toArray, .bool true]) ∧ Below w.heap.size w w' := by
  have H := hide h; clear h
  go_enter Tryz.func69, Tryz.ntmps69
  simp only [pgL]
  go_upto_region 1 with (fail)
  obtain ⟨W, hW⟩ : ∃ V, V = (w.alloc (.cells (pgL b).toArray 48)).alloc (.cells dfZ.toArray 83) := ⟨_, rfl⟩
  have hb2 := boxes2 w _ _ _ _ W hW
  have hW' := hW
  simp only [pgL, dfZ, dfL, List.set_cons_succ, List.set_cons_zero] at hW'
  rw [← hW']
  clear hW hW'
  obtain ⟨b2, b4, hz, hbW⟩ := hb2
  have HD := hide (H.out.below hbW)
  have B4 := hide b4
  have k8 : W.cell? ⟨w.heap.size, 8, none⟩ = some (.slice (some ⟨b 5, 0, none⟩) 2 2) := b2.1 8 _ rfl
  have HbW := hide hbW
  have Hz := hide hz
  clear b2 b4 hbW hz
  go_wp2_with fail
  refine wp_loop_rounds 1 ?_
  rw [rounds_succ]
  go_wp2_with (first
    | ((with_reducible refine wpList_load_mid ?_ 83 (.tmp 13) ?_ (b 5) 0 ?_ (dnL d1) _ ?_ Tryz.underlying83 ?_ ?_ ?_); (focus rfl); (focus rfl); (focus rfl); (focus exact HD.out.sub 0 _ rfl); (focus rfl); (focus kernel_rfl))
    | ((with_reducible refine wpList_store_new ?_ ?_ 83 (.tmp 7) (.tmp 14) ?_ (dnL d1) ?_ ?_ ?_ ?_ ?_ ?_); (focus rfl); (focus rfl); (focus rfl); (focus rfl); (focus rfl); (focus rfl); (focus kernel_rfl); (focus exact dnL_one); intro V1 hV1 hbV1; have HV1 := hide hV1; have HBV1 := hide hbV1; have iV1 : V1.cell? ⟨_, 0, none⟩ = some (.int .i64 _) := HV1.out.1 0 _ rfl; clear hV1 hbV1)
    | ((with_reducible refine wpList_load_mid ?_ 83 (.tmp 7) ?_ W.heap.size 0 ?_ (dnL d1) _ ?_ Tryz.underlying83 ?_ ?_ ?_); (focus rfl); (focus rfl); (focus rfl); (focus exact HV1.out.whole); (focus rfl); (focus kernel_rfl))
    | ((with_reducible refine wpList_store_in ?_ ?_ 83 (.tmp 4) (.tmp 19) ?_ (w.heap.size + 1) 0 dfZ (dnL d1) (dnL d1) ?_ ?_ ?_ ?_ ?_ ?_ ?_ ?_); (focus rfl); (focus rfl); (focus rfl); (focus rfl); (focus rfl); (focus exact B4.out.below HBV1.out); (focus (show 0 + 12 ≤ 12; decide)); (focus rfl); (focus kernel_rfl); (focus exact dnL_one); intro V8 hV8 hT8; have HV8 := hide hV8; have HT8 := hide hT8; clear hV8 hT8))
  have b8 : Below w.heap.size w V8 := (HbW.out.trans (HBV1.out.mono (by have := Hz.out; omega))).trans (HT8.out.below (HbW.out.trans (HBV1.out.mono (by have := Hz.out; omega))).size (fun k hk => by omega))
  exact bodyPost_ret (res_box2 (cs := dnL d1) rfl rfl rfl HV8.out Tryz.underlying83 rfl (by kernel_rfl)) rfl ⟨rfl, b8⟩
set_option maxRecDepth 100000 in
set_option maxHeartbeats 4000000 in
theorem find_two (b : Nat → Nat) (d1 d2 : Dn) (hne : d1.id ≠ d2.id) (w : World) (h : DefsAt w (b 5) d1 d2) :
    Calls Tryz.prog 69 #[.agg (pgL b).toArray, .int .i64 d2.id] w fun e w' => e = .returned (.tuple #[.agg (dnL d2).toArray, .bool true]) ∧ Below w.heap.size w w' := by
  have H := hide h; clear h
  have e12 : ¬ d1.id = d2.id := hne
  go_enter Tryz.func69, Tryz.ntmps69
  simp only [pgL]
  go_upto_region 1 with (fail)
  obtain ⟨W, hW⟩ : ∃ V, V = (w.alloc (.cells (pgL b).toArray 48)).alloc (.cells dfZ.toArray 83) := ⟨_, rfl⟩
  have hb2 := boxes2 w _ _ _ _ W hW
  have hW' := hW
  simp only [pgL, dfZ, dfL, List.set_cons_succ, List.set_cons_zero] at hW'
  rw [← hW']
  clear hW hW'
  obtain ⟨b2, b4, hz, hbW⟩ := hb2
  have HD := hide (H.out.below hbW)
  have B4 := hide b4
  have k8 : W.cell? ⟨w.heap.size, 8, none⟩ = some (.slice (some ⟨b 5, 0, none⟩) 2 2) := b2.1 8 _ rfl
  have HbW := hide hbW
  have Hz := hide hz
  clear b2 b4 hbW hz
  go_wp2_with fail
  refine wp_loop_rounds 2 ?_
  rw [rounds_succ]
  go_wp2_with (first
    | ((with_reducible refine wpList_load_mid ?_ 83 (.tmp 13) ?_ (b 5) 0 ?_ (dnL d1) _ ?_ Tryz.underlying83 ?_ ?_ ?_); (focus rfl); (focus rfl); (focus rfl); (focus exact HD.out.sub 0 _ rfl); (focus rfl); (focus kernel_rfl))
    | ((with_reducible refine wpList_store_new ?_ ?_ 83 (.tmp 7) (.tmp 14) ?_ (dnL d1) ?_ ?_ ?_ ?_ ?_ ?_); (focus rfl); (focus rfl); (focus rfl); (focus rfl); (focus rfl); (focus rfl); (focus kernel_rfl); (focus exact dnL_one); intro V1 hV1 hbV1; have HV1 := hide hV1; have HBV1 := hide hbV1; have iV1 : V1.cell? ⟨_, 0, none⟩ = some (.int .i64 _) := HV1.out.1 0 _ rfl; clear hV1 hbV1))
  have HD2 := hide (HD.out.below HBV1.out)
  have HB4 := hide (B4.out.below HBV1.out)
  have HBV : Hid (Below w.heap.size w V1) := hide (HbW.out.trans (HBV1.out.mono (by have := Hz.out; omega)))
  rw [rounds_succ]
  go_wp2_with (first
    | ((with_reducible refine wpList_load_mid ?_ 83 (.tmp 13) ?_ (b 5) 12 ?_ (dnL d2) _ ?_ Tryz.underlying83 ?_ ?_ ?_); (focus rfl); (focus rfl); (focus rfl); (focus exact HD2.out.sub 12 _ rfl); (focus rfl); (focus kernel_rfl))
    | ((with_reducible refine wpList_store_new ?_ ?_ 83 (.tmp 7) (.tmp 14) ?_ (dnL d2) ?_ ?_ ?_ ?_ ?_ ?_); (focus rfl); (focus rfl); (focus rfl); (focus rfl); (focus rfl); (focus rfl); (focus kernel_rfl); (focus exact dnL_one); intro V2 hV2 hbV2; have HV2 := hide hV2; have HBV2 := hide hbV2; have iV2 : V2.cell? ⟨_, 0, none⟩ = some (.int .i64 _) := HV2.out.1 0 _ rfl; clear hV2 hbV2)
    | ((with_reducible refine wpList_load_mid ?_ 83 (.tmp 7) ?_ V1.heap.size 0 ?_ (dnL d2) _ ?_ Tryz.underlying83 ?_ ?_ ?_); (focus rfl); (focus rfl); (focus rfl); (focus exact HV2.out.whole); (focus rfl); (focus kernel_rfl))
    | ((with_reducible refine wpList_store_in ?_ ?_ 83 (.tmp 4) (.tmp 19) ?_ (w.heap.size + 1) 0 dfZ (dnL d2) (dnL d2) ?_ ?_ ?_ ?_ ?_ ?_ ?_ ?_); (focus rfl); (focus rfl); (focus rfl); (focus rfl); (focus rfl); (focus exact HB4.out.below HBV2.out); (focus (show 0 + 12 ≤ 12; decide)); (focus rfl); (focus kernel_rfl); (focus exact dnL_one); intro V8 hV8 hT8; have HV8 := hide hV8; have HT8 := hide hT8; clear hV8 hT8))
  have b8 : Below w.heap.size w V8 := (HBV.out.trans (HBV2.out.mono HBV.out.size)).trans (HT8.out.below (HBV.out.trans (HBV2.out.mono HBV.out.size)).size (fun k hk => by omega))
  exact bodyPost_ret (res_box2 (cs := dnL d2) rfl rfl rfl HV8.out Tryz.underlying83 rfl (by kernel_rfl)) rfl ⟨rfl, b8⟩
end Go.Proofs.YthhfakkfdohcpaaGreat
