/- A graph to which edges are added: the plain laws. No condition. -/
import Derived.Test.YthhfakkfdohcpaaGreatM23
import Derived.WalkSpells
import Derived.Test.YthhfakkfdohcpaaGreatM14
namespace Go.Proofs.YthhfakkfdohcpaaGreat
open Go.RowKit Go.ChangeMaps Go.MapKept
abbrev Gr := List (Int × Nat × List Int)
theorem nodup_inj {α : Type} {f : (Int × Nat × List Int) → α} {L : Gr} (h : (L.map f).Nodup) {e e' : Int × Nat × List Int} (he : e ∈ L) (he' : e' ∈ L) (hf : f e = f e') : e = e' := by
  induction L with
  | nil => simp at he
  | cons x xs ih =>
    simp only [List.map_cons, List.nodup_cons, List.mem_map, not_exists, not_and] at h
    rcases List.mem_cons.1 he with h1 | h1
    · rcases List.mem_cons.1 he' with h2 | h2
      · rw [h1, h2]
      · subst h1
        exact absurd hf.symm (h.1 e' h2)
    · rcases List.mem_cons.1 he' with h2 | h2
      · subst h2
        exact absurd hf (h.1 e h1)
      · exact ih h.2 h1 h2
theorem graph_hit {W : World} {B g : Nat} {L : Gr} (_h : GraphAt W B g L) {a : Int} (ha : a ∈ L.map (·.1)) : ∃ j m ks, HasKey 3 (.int .i64 a) (grL L) j (.map (some m)) ∧ (a, m, ks) ∈ L := by
  obtain ⟨j, hj, hf⟩ := first_at ha
  rw [List.getElem?_map] at hj
  cases hL : L[j]? with
  | none => rw [hL] at hj; simp at hj
  | some e =>
    obtain ⟨a', m, ks⟩ := e
    rw [hL] at hj
    simp only [Option.map_some, Option.some.injEq] at hj
    subst hj
    exact ⟨j, m, ks, hasKey_ints a' _ (L.map (·.1)) (grL_keys L) j _ (by rw [List.getElem?_map, hL]; rfl) hf (by simp [grL, hL]), List.mem_of_getElem? hL⟩
theorem graph_miss {L : Gr} {a : Int} (ha : a ∉ L.map (·.1)) : NoKey 3 (.int .i64 a) (grL L) := noKey_ints a _ _ (grL_keys L) ha
def addE (L : Gr) (m : Nat) (b : Int) : Gr := L.map fun e => if e.2.1 = m then (e.1, e.2.1, addI e.2.2 b) else e
theorem addE_fst (L : Gr) (m : Nat) (b : Int) : (addE L m b).map (·.1) = L.map (·.1) := by
  simp only [addE, List.map_map]
  apply List.map_congr_left
  intro e _
  simp only [Function.comp]
  split <;> rfl
theorem addE_blk (L : Gr) (m : Nat) (b : Int) : (addE L m b).map (·.2.1) = L.map (·.2.1) := by
  simp only [addE, List.map_map]
  apply List.map_congr_left
  intro e _
  simp only [Function.comp]
  split <;> rfl
theorem addE_grL (L : Gr) (m : Nat) (b : Int) : grL (addE L m b) = grL L := by
  simp only [addE, grL, List.map_map]
  apply List.map_congr_left
  intro e _
  simp only [Function.comp]
  split <;> rfl
theorem graph_add_hit {W V : World} {B g : Nat} {L : Gr} (h : GraphAt W B g L) {a b : Int} {m : Nat} {ks : List Int} (hm : (a, m, ks) ∈ L) (hV : SetAt V m (addI ks b)) (hb : But (fun i => i = m) W V) :
    GraphAt V B g (addE L m b) ∧ ∀ x y, Edge (addE L m b) x y ↔ Edge L x y ∨ (x = a ∧ y = b) := by
  have hof := h.off _ hm
  refine ⟨⟨?_, ?_, ?_, ?_, ?_, h.base, ?_⟩, fun x y => ?_⟩
  · rw [addE_grL]
    exact h.map.but hb (fun e => hof e.symm)
  · intro e he
    obtain ⟨e0, he0, rfl⟩ := List.mem_map.1 he
    by_cases hc : e0.2.1 = m
    · have : e0 = (a, m, ks) := nodup_inj (f := (·.2.1)) h.nd he0 hm hc
      subst this
      simpa using hV
    · simp only [hc, if_false]
      exact MapAt.but (h.set e0 he0) hb hc
  · intro e he
    obtain ⟨e0, he0, rfl⟩ := List.mem_map.1 he
    by_cases hc : e0.2.1 = m
    · simp only [hc, if_true]; exact hof
    · simp only [hc, if_false]; exact h.off e0 he0
  · rw [addE_blk]; exact h.nd
  · rw [addE_fst]; exact h.keys
  · intro e he
    obtain ⟨e0, he0, rfl⟩ := List.mem_map.1 he
    by_cases hc : e0.2.1 = m
    · simp only [hc, if_true]; exact h.bases _ hm
    · simp only [hc, if_false]; exact h.bases e0 he0
  · constructor
    · rintro ⟨m', ks', he, hy⟩
      obtain ⟨e0, he0, hq⟩ := List.mem_map.1 he
      by_cases hc : e0.2.1 = m
      · have : e0 = (a, m, ks) := nodup_inj (f := (·.2.1)) h.nd he0 hm hc
        subst this
        simp only [if_true, Prod.mk.injEq] at hq
        obtain ⟨rfl, rfl, rfl⟩ := hq
        rcases mem_addI.1 hy with hy | rfl
        · exact .inl ⟨_, _, hm, hy⟩
        · exact .inr ⟨rfl, rfl⟩
      · simp only [hc, if_false] at hq
        subst hq
        exact .inl ⟨_, _, he0, hy⟩
    · rintro (⟨m', ks', he, hy⟩ | ⟨rfl, rfl⟩)
      · by_cases hc : m' = m
        · have : (x, m', ks') = (a, m, ks) := nodup_inj (f := (·.2.1)) h.nd he hm hc
          simp only [Prod.mk.injEq] at this
          obtain ⟨rfl, rfl, rfl⟩ := this
          exact ⟨m', addI ks' b, List.mem_map.2 ⟨_, he, by simp⟩, mem_addI.2 (.inl hy)⟩
        · exact ⟨m', ks', List.mem_map.2 ⟨_, he, by simp [hc]⟩, hy⟩
      · exact ⟨m, addI ks y, List.mem_map.2 ⟨_, hm, by simp⟩, mem_addI.2 (.inr rfl)⟩
theorem graph_add_new {W V : World} {B g : Nat} {L : Gr} (h : GraphAt W B g L) {a : Int} {m : Nat} (ha : a ∉ L.map (·.1)) (hm : SetAt W m []) (hmg : m ≠ g) (hml : ∀ e ∈ L, e.2.1 ≠ m) (hmB : B ≤ m) (hV : MapAt V g (grL L ++ [(.int .i64 a, .map (some m))])) (hb : But (fun i => i = g) W V) :
    GraphAt V B g (L ++ [(a, m, [])]) ∧ ∀ x y, Edge (L ++ [(a, m, [])]) x y ↔ Edge L x y := by
  refine ⟨⟨?_, ?_, ?_, ?_, ?_, h.base, ?_⟩, fun x y => ?_⟩
  · simpa [grL] using hV
  · intro e he
    rcases List.mem_append.1 he with he | he
    · exact MapAt.but (h.set e he) hb (h.off e he)
    · simp only [List.mem_singleton] at he
      subst he
      exact MapAt.but hm hb hmg
  · intro e he
    rcases List.mem_append.1 he with he | he
    · exact h.off e he
    · simp only [List.mem_singleton] at he
      subst he
      exact hmg
  · rw [List.map_append, List.nodup_append]
    refine ⟨h.nd, by simp, fun x hx y hy => ?_⟩
    obtain ⟨e, he, rfl⟩ := List.mem_map.1 hx
    simp only [List.map_cons, List.map_nil, List.mem_singleton] at hy
    subst hy
    exact hml e he
  · rw [List.map_append, List.nodup_append]
    refine ⟨h.keys, by simp, fun x hx y hy => ?_⟩
    simp only [List.map_cons, List.map_nil, List.mem_singleton] at hy
    subst hy
    exact fun e => ha (e ▸ hx)
  · intro e he
    rcases List.mem_append.1 he with he | he
    · exact h.bases e he
    · simp only [List.mem_singleton] at he
      subst he
      exact hmB
  · constructor
    · rintro ⟨m', ks', he, hy⟩
      rcases List.mem_append.1 he with he | he
      · exact ⟨m', ks', he, hy⟩
      · simp only [List.mem_singleton, Prod.mk.injEq] at he
        obtain ⟨-, -, rfl⟩ := he
        simp at hy
    · rintro ⟨m', ks', he, hy⟩
      exact ⟨m', ks', List.mem_append_left _ he, hy⟩
end Go.Proofs.YthhfakkfdohcpaaGreat
/- Pairs added to a graph. No condition. -/
namespace Go.Proofs.YthhfakkfdohcpaaGreat
open Go.RowKit Go.ChangeMaps Go.MapKept
def prV (p : Int × Int × Int) : List Value := [.int .i64 p.1, .int .i64 p.2.1, .int .i64 p.2.2]
theorem flat3_at (ss : List (Int × Int × Int)) : ∀ (j : Nat) (s : Int × Int × Int), ss[j]? = some s → ((ss.flatMap prV).drop (3 * j)).take 3 = prV s := by
  induction ss with
  | nil => intro j s h; simp at h
  | cons a ss ih =>
    intro j s h
    cases j with
    | zero =>
      simp only [List.getElem?_cons_zero, Option.some.injEq] at h
      subst h
      simp only [List.flatMap_cons, Nat.mul_zero, List.drop_zero]
      exact List.take_left' rfl
    | succ j =>
      simp only [List.getElem?_cons_succ] at h
      rw [List.flatMap_cons, show 3 * (j + 1) = (prV a).length + 3 * j by show 3 * (j + 1) = 3 + 3 * j; omega, List.drop_append]
      rw [List.drop_eq_nil_of_le (by omega), List.nil_append, Nat.add_sub_cancel_left]
      exact ih j s h
def PrsAt (W : World) (pb : Nat) (ps : List (Int × Int × Int)) : Prop := BoxAt W pb (ps.flatMap prV)
theorem PrsAt.at {W : World} {pb : Nat} {ps : List (Int × Int × Int)} (h : PrsAt W pb ps) {j : Nat} {s : Int × Int × Int} (hj : ps[j]? = some s) : W.rangeAt pb (j * 3) (prV s) := by
  rw [Nat.mul_comm]
  exact BoxAt.sub h (3 * j) (prV s) (by show List.take 3 _ = _; exact flat3_at ps j s hj)
theorem wpList_lookup_miss {P0 : Program} (hP : P0 = Tryz.prog) {ops : Array Oper} {rest : List Oper} {o : Oper} {a : Act} {w : World} {Q : Exit → Act → World → Prop} (hg : o.guard = none) {T Kt Et : TypeId} (x y : Operand) (c : Bool) (ho : o.op = .lookup T x y c)
    (m : Nat) (k z : Value) (l : List (Value × Value)) (hx : a.eval x = .map (some m)) (hy : a.eval y = k) (ht : Tryz.prog.underlying T = some (.map Kt Et)) (h : MapAt w m l)
    (hck : ∀ w, (Instr.checkKey (entL l).toArray.isEmpty 10000 Kt k).run Tryz.prog w = .ok () w) (hn : NoKey Kt k l) (hz : ∀ w, (zeroValue Et).run Tryz.prog w = .ok z w)
    (hK : wpList P0 ops Q rest (a.put o.dst (if c then .tuple #[z, .bool false] else z)) w) : wpList P0 ops Q (o :: rest) a w := by
  subst hP
  refine wpList_plain hg fun K' hK' => ?_
  have hrun := run_lookup_miss ht h hck hn hz c
  unfold Oper.wp
  simp [execOp, ho, hx, hy, hrun, Result.andThen]
  exact hK' _ _ hK
def AddRel (ps : List (Int × Int × Int)) (B g : Nat) (L : Gr) (w : World) (j : Nat) (wr : World) : Prop :=
  ∃ L', GraphAt wr B g L' ∧ (∀ x y, Edge L' x y ↔ Edge L x y ∨ ∃ s, (x, y, s) ∈ ps.take j) ∧ Below B w wr
theorem AddRel.next {ps : List (Int × Int × Int)} {B g : Nat} {L L1 L2 : Gr} {w wr : World} {j : Nat} {a b s : Int} (hp : ps[j]? = some (a, b, s)) (h1 : ∀ x y, Edge L1 x y ↔ Edge L x y ∨ ∃ s, (x, y, s) ∈ ps.take j) (hG : GraphAt wr B g L2) (h2 : ∀ x y, Edge L2 x y ↔ Edge L1 x y ∨ (x = a ∧ y = b)) (hB : Below B w wr) : AddRel ps B g L w (j + 1) wr := by
  refine ⟨L2, hG, fun x y => ?_, hB⟩
  rw [h2, h1, List.take_add_one, hp]
  constructor
  · rintro ((h | ⟨s', h⟩) | ⟨rfl, rfl⟩)
    · exact .inl h
    · exact .inr ⟨s', by simp [h]⟩
    · exact .inr ⟨s, by simp⟩
  · rintro (h | ⟨s', h⟩)
    · exact .inl (.inl h)
    · simp only [Option.toList_some, List.mem_append, List.mem_singleton, Prod.mk.injEq] at h
      rcases h with h | ⟨rfl, rfl, -⟩
      · exact .inl (.inr ⟨s', h⟩)
      · exact .inr ⟨rfl, rfl⟩
theorem prV_one {p : Int × Int × Int} : ∀ u ∈ prV p, u.oneCell' = true := pair_one
set_option maxRecDepth 100000 in
set_option maxHeartbeats 8000000 in
theorem add_any (B g : Nat) (L : Gr) (ps : List (Int × Int × Int)) (pb c : Nat) (w : World) (hG : GraphAt w B g L) (hB : B ≤ w.heap.size) (hp : PrsAt w pb ps) (hpb : pb < B) (hn : ps.length ≤ 100) :
    Calls Tryz.prog 11 #[.map (some g), .slice (some ⟨pb, 0, none⟩) ps.length c] w fun e w' => ∃ L', e = .returned (.tuple #[]) ∧ GraphAt w' B g L' ∧ (∀ x y, Edge L' x y ↔ Edge L x y ∨ ∃ s, (x, y, s) ∈ ps) ∧ Below B w w' := by
  have hk0 : ∀ W, (Instr.makeMap 92 none).run Tryz.prog W = .ok (.map (some W.heap.size)) (W.alloc (.map #[] 0)) := fun _ => by kernel_rfl
  have hz : ∀ w, (zeroValue 92).run Tryz.prog w = .ok (.map none) w := fun w => by kernel_rfl
  have He := fun W r => run_eql_map_nil (P := Tryz.prog) W 92 3 4 r Tryz.underlying92
  have HG := hide hG; clear hG
  have HP := hide hp; clear hp
  go_enter Tryz.func11, Tryz.ntmps11
  go_wp2_with fail
  go_loopw [8] (fun i wr => ∃ j : Nat, j ≤ ps.length ∧ i = .int .i64 j ∧ AddRel ps B g L w j wr) (fun i _ => ps.length - (intOf i).toNat)
  case atStart => exact ⟨0, by omega, rfl, L, HG.out, fun x y => by simp, Below.refl _ _⟩
  case round =>
  obtain ⟨j, hj, rfl, L1, hG1, hE, hBw⟩ := hrel
  have HG1 := hide hG1
  have HE := hide hE
  have HBw := hide hBw
  have Hsz : Hid (B ≤ wr.heap.size) := hide (by have := hBw.size; omega)
  clear hG1 hE hBw
  by_cases hlt : j < ps.length
  · have hps : ps[j]? = some ps[j] := List.getElem?_eq_getElem hlt
    obtain ⟨p, hp'⟩ : ∃ p, p = ps[j] := ⟨_, rfl⟩
    rw [← hp'] at hps
    clear hp'
    obtain ⟨a, b, s⟩ := p
    have HPw : Hid (PrsAt wr pb ps) := hide (by
      have h := HP.out
      exact BoxAt.but (S := fun k => B ≤ k) h ⟨HBw.out.os, HBw.out.tape, HBw.out.output, HBw.out.size, fun k _ hs => HBw.out.block k (by omega)⟩ (by omega))
    have HR := hide (PrsAt.at HPw.out hps)
    have Hps := hide hps
    clear hps
    go_upto_region 3 with (first
      | ((with_reducible refine wpList_load_mid ?_ 29 (.tmp 10) ?_ (pb) (j * 3) ?_ (prV (a, b, s)) _ ?_ Tryz.underlying29 ?_ ?_ ?_); (focus rfl); (focus rfl); (focus rfl); (focus exact HR.out); (focus rfl); (focus kernel_rfl))
      | ((with_reducible refine wpList_store_new ?_ ?_ 29 (.tmp 5) (.tmp 11) ?_ (prV (a, b, s)) ?_ ?_ ?_ ?_ ?_ ?_); (focus rfl); (focus rfl); (focus rfl); (focus rfl); (focus rfl); (focus rfl); (focus kernel_rfl); (focus exact prV_one); intro V1 hV1 hbV1; have HV1 := hide hV1; have HbV1 := hide hbV1; clear hV1 hbV1))
    have Hgw := hide HG1.out.map.lt
    replace HG1 := hide (HG1.out.below HbV1.out)
    replace HBw := hide (HBw.out.trans (HbV1.out.mono Hsz.out))
    have Hsz1 : Hid (B ≤ V1.heap.size) := hide (by have := Hsz.out; have := HbV1.out.size; omega)
    have q0 : V1.cell? ⟨wr.heap.size, 0, none⟩ = some (.int .i64 a) := HV1.out.1 0 _ rfl
    have q1 : V1.cell? ⟨wr.heap.size, 1, none⟩ = some (.int .i64 b) := HV1.out.1 1 _ rfl
    by_cases ha : a ∈ L1.map (·.1)
    · obtain ⟨jj, m, ks, hh, hmem⟩ := graph_hit HG1.out ha
      go_wp2_with (first
        | ((with_reducible refine wpList_lookup_hit ?_ ?_ (.tmp 12) (.tmp 14) false ?_ g (.int .i64 a) _ _ (grL L1) ?_ ?_ Tryz.underlying69 HG1.out.map (fun w => check_int_any _ _ w) hh ?_); (focus rfl); (focus rfl); (focus rfl); (focus rfl); (focus rfl); skip)
        | ((with_reducible refine wpList_lookup_hit ?_ ?_ (.tmp 21) (.tmp 23) false ?_ g (.int .i64 a) _ _ (grL L1) ?_ ?_ Tryz.underlying69 HG1.out.map (fun w => check_int_any _ _ w) hh ?_); (focus rfl); (focus rfl); (focus rfl); (focus rfl); (focus rfl); skip)
        | ((with_reducible refine wpList_set_add ?_ ?_ ?_ (.tmp 24) (.tmp 26) (.const (.bool true)) ?_ m b ks ?_ ?_ ?_ (HG1.out.set _ hmem) ?_); (focus rfl); (focus rfl); (focus rfl); (focus rfl); (focus rfl); (focus rfl); (focus rfl); intro V2 hS hT; have HS := hide hS; have HT := hide hT; clear hS hT q0 q1))
      obtain ⟨hG2, hE2⟩ := graph_add_hit HG1.out hmem HS.out HT.out
      go_roundw
      case rel => exact ⟨j + 1, by omega, by go_num, AddRel.next Hps.out HE.out hG2 hE2 (HBw.out.trans (HT.out.below Hsz1.out (fun k hk => by have h9 : B ≤ m := HG1.out.bases _ hmem; omega)))⟩
      case measure => simp [intOf]; omega
    · have hms := graph_miss ha
      have hal : Below V1.heap.size V1 (V1.alloc (.map #[] 0)) := (Below.refl _ V1).alloc (Nat.le_refl _) _
      have HGA := hide (HG1.out.below hal)
      have hSA : SetAt (V1.alloc (.map #[] 0)) V1.heap.size [] := MapAt.new V1
      go_upto_region 5 with (first
        | ((with_reducible refine wpList_lookup_miss ?_ ?_ (.tmp 12) (.tmp 14) false ?_ g (.int .i64 a) (.map none) (grL L1) ?_ ?_ Tryz.underlying69 HG1.out.map (fun w => check_int_any _ _ w) hms hz ?_); (focus rfl); (focus rfl); (focus rfl); (focus rfl); (focus rfl); skip)
        | ((with_reducible refine wpList_update_new ?_ ?_ ?_ (.tmp 17) (.tmp 19) (.tmp 20) ?_ g (.int .i64 a) (.map (some V1.heap.size)) (grL L1) ?_ ?_ ?_ Tryz.underlying69 HGA.out.map (check_int _) hms ?_); (focus rfl); (focus rfl); (focus rfl); (focus rfl); (focus rfl); (focus rfl); (focus rfl); intro V2 hmp hT; have HMP := hide hmp; have HT := hide hT; clear hmp hT q0 q1))
      obtain ⟨hG2, hE2⟩ := graph_add_new HGA.out ha hSA (by have := HG1.out.map.lt; omega) (fun e he => by have := MapAt.lt (HG1.out.set e he); omega) (by have := Hsz1.out; omega) HMP.out HT.out
      have HV2 := hide (BoxAt.but (HV1.out.below hal) HT.out (by have := Hgw.out; omega))
      have HB2 : Hid (Below B w V2) := hide ((HBw.out.trans (hal.mono Hsz1.out)).trans (HT.out.below (by have := hal.size; have := Hsz1.out; omega) (fun k hk => by have := HG1.out.base; omega)))
      have Hsz2 : Hid (B ≤ V2.heap.size) := hide (by have h1 := hal.size; have h2 := HT.out.size; have h3 := Hsz1.out; omega)
      have q0 : V2.cell? ⟨wr.heap.size, 0, none⟩ = some (.int .i64 a) := HV2.out.1 0 _ rfl
      have q1 : V2.cell? ⟨wr.heap.size, 1, none⟩ = some (.int .i64 b) := HV2.out.1 1 _ rfl
      clear hms hal hSA HGA HMP HT
      have HG2 := hide hG2
      obtain ⟨jj, m, ks, hh, hmem⟩ := graph_hit HG2.out (a := a) (by simp)
      go_wp2_with (first
        | ((with_reducible refine wpList_lookup_hit ?_ ?_ (.tmp 21) (.tmp 23) false ?_ g (.int .i64 a) _ _ (grL (L1 ++ [(a, V1.heap.size, [])])) ?_ ?_ Tryz.underlying69 HG2.out.map (fun w => check_int_any _ _ w) hh ?_); (focus rfl); (focus rfl); (focus rfl); (focus rfl); (focus rfl); skip)
        | ((with_reducible refine wpList_set_add ?_ ?_ ?_ (.tmp 24) (.tmp 26) (.const (.bool true)) ?_ m b ks ?_ ?_ ?_ (HG2.out.set _ hmem) ?_); (focus rfl); (focus rfl); (focus rfl); (focus rfl); (focus rfl); (focus rfl); (focus rfl); intro V3 hS hT; have HS := hide hS; have HT := hide hT; clear hS hT q0 q1))
      obtain ⟨hG3, hE3⟩ := graph_add_hit HG2.out hmem HS.out HT.out
      go_roundw
      case rel => exact ⟨j + 1, by omega, by go_num, AddRel.next Hps.out HE.out hG3 (fun x y => by rw [hE3, hE2]) (HB2.out.trans (HT.out.below Hsz2.out (fun k hk => by have h9 : B ≤ m := HG2.out.bases _ hmem; omega)))⟩
      case measure => simp [intOf]; omega
  · obtain rfl : j = ps.length := by omega
    go_wp2_with fail
    go_end0
    exact ⟨L1, rfl, HG1.out, fun x y => by rw [HE.out, List.take_length], HBw.out⟩
end Go.Proofs.YthhfakkfdohcpaaGreat
/- Ways in a graph, and what a search with a memo shows: plain laws. No condition. -/
namespace Go.Proofs.YthhfakkfdohcpaaGreat
open Go.RowKit Go.ChangeMaps Go.MapKept
inductive Way (L : Gr) : Int → Int → Prop
  | here (a : Int) : Way L a a
  | step {a b c : Int} : Edge L a b → Way L b c → Way L a c
/-- What is newly seen is closed under the graph. -/
def Clo (L : Gr) (S S' : List Int) : Prop := (∀ x, x ∈ S → x ∈ S') ∧ ∀ x, x ∈ S' → x ∉ S → ∀ y, Edge L x y → y ∈ S'
theorem Clo.refl (L : Gr) (S : List Int) : Clo L S S := ⟨fun _ h => h, fun _ h h' => absurd h h'⟩
theorem Clo.trans {L : Gr} {S S1 S2 : List Int} (h : Clo L S S1) (k : Clo L S1 S2) : Clo L S S2 := by
  refine ⟨fun x hx => k.1 x (h.1 x hx), fun x hx hn y hy => ?_⟩
  by_cases h1 : x ∈ S1
  · exact k.1 y (h.2 x h1 hn y hy)
  · exact k.2 x hx h1 y hy
theorem Clo.node {L : Gr} {S S' : List Int} {k : Int} (h : Clo L (addI S k) S') (hk : ∀ y, Edge L k y → y ∈ S') : Clo L S S' := by
  refine ⟨fun x hx => h.1 x (mem_addI.2 (.inl hx)), fun x hx hn y hy => ?_⟩
  by_cases e : x = k
  · subst e
    exact hk y hy
  · exact h.2 x hx (fun h' => by rcases mem_addI.1 h' with h' | h'; exact hn h'; exact e h') y hy
theorem Clo.none {L : Gr} {S' : List Int} {a b : Int} (h : Clo L [] S') (hb : b ∈ S') (ha : a ∉ S') : ¬ Way L b a := by
  intro w
  induction w with
  | here => exact ha hb
  | step e _ ih => exact ih (h.2 _ hb (by simp) _ e) ha
/-- How many of V are not in S. -/
def left {α : Type} [DecidableEq α] (V S : List α) : Nat := (V.filter fun x => decide (x ∉ S)).length
theorem left_mono {α : Type} [DecidableEq α] {S S' : List α} (h : ∀ x, x ∈ S → x ∈ S') : ∀ V : List α, left V S' ≤ left V S
  | [] => Nat.le_refl _
  | x :: V => by
    have ih := left_mono h V
    unfold left at ih ⊢
    by_cases h1 : x ∈ S
    · have h2 := h x h1
      simp only [List.filter_cons, h1, h2, not_true_eq_false, decide_false, Bool.false_eq_true, if_false]
      exact ih
    · by_cases h2 : x ∈ S'
      · simp only [List.filter_cons, h1, h2, not_true_eq_false, not_false_eq_true, decide_false, decide_true, Bool.false_eq_true, if_false, if_true, List.length_cons]
        omega
      · simp only [List.filter_cons, h1, h2, not_false_eq_true, decide_true, if_true, List.length_cons]
        omega
theorem left_lt {α : Type} [DecidableEq α] {S S' : List α} {k : α} (h : ∀ x, x ∈ S → x ∈ S') (hk : k ∉ S) (hk' : k ∈ S') : ∀ {V : List α}, k ∈ V → left V S' < left V S
  | [], hV => by simp at hV
  | x :: V, hV => by
    have hm := left_mono h V
    by_cases e : x = k
    · subst e
      unfold left at hm ⊢
      simp only [List.filter_cons, hk, hk', not_true_eq_false, not_false_eq_true, decide_false, decide_true, Bool.false_eq_true, if_false, if_true, List.length_cons]
      omega
    · have hV' : k ∈ V := by
        rcases List.mem_cons.1 hV with h | h
        · exact absurd h.symm e
        · exact h
      have ih := left_lt h hk hk' hV'
      unfold left at ih ⊢
      by_cases h1 : x ∈ S
      · have h2 := h x h1
        simp only [List.filter_cons, h1, h2, not_true_eq_false, decide_false, Bool.false_eq_true, if_false]
        exact ih
      · by_cases h2 : x ∈ S'
        · simp only [List.filter_cons, h1, h2, not_true_eq_false, not_false_eq_true, decide_false, decide_true, Bool.false_eq_true, if_false, if_true, List.length_cons]
          omega
        · simp only [List.filter_cons, h1, h2, not_false_eq_true, decide_true, if_true, List.length_cons]
          omega
/-- What a search leans on. -/
structure Env (W : World) (xb sb gb fb sm g B : Nat) (a b s : Int) (L : Gr) (S : List Int) : Prop where
  bx : BoxAt W xb (prV (a, b, s))
  bs : BoxAt W sb [.map (some sm)]
  bg : BoxAt W gb [.map (some g)]
  bf : BoxAt W fb [.func (.func 28) #[] #[.pointer (some ⟨xb, 0, none⟩), .pointer (some ⟨sb, 0, none⟩), .pointer (some ⟨gb, 0, none⟩), .pointer (some ⟨fb, 0, none⟩)]]
  gr : GraphAt W B g L
  se : SetAt W sm S
  n1 : xb ≠ sm
  n2 : sb ≠ sm
  n3 : gb ≠ sm
  n4 : fb ≠ sm
  n5 : g ≠ sm
  n6 : ∀ e ∈ L, e.2.1 ≠ sm
theorem GraphAt.but {W W' : World} {B g : Nat} {L : Gr} {T : Nat → Prop} (h : GraphAt W B g L) (hb : But T W W') (h1 : ¬ T g) (h2 : ∀ e ∈ L, ¬ T e.2.1) : GraphAt W' B g L :=
  { h with map := h.map.but hb h1, set := fun e he => MapAt.but (h.set e he) hb (h2 e he) }
theorem Env.but {W W' : World} {xb sb gb fb sm g B : Nat} {a b s : Int} {L : Gr} {S S' : List Int} (h : Env W xb sb gb fb sm g B a b s L S) (hb : But (fun i => i = sm) W W') (hs : SetAt W' sm S') : Env W' xb sb gb fb sm g B a b s L S' :=
  { h with bx := h.bx.but hb h.n1, bs := h.bs.but hb h.n2, bg := h.bg.but hb h.n3, bf := h.bf.but hb h.n4, gr := h.gr.but hb h.n5 h.n6, se := hs }
theorem Env.below {W W' : World} {xb sb gb fb sm g B : Nat} {a b s : Int} {L : Gr} {S : List Int} (h : Env W xb sb gb fb sm g B a b s L S) (hb : Below W.heap.size W W') : Env W' xb sb gb fb sm g B a b s L S :=
  { h with bx := h.bx.below hb, bs := h.bs.below hb, bg := h.bg.below hb, bf := h.bf.below hb, gr := h.gr.below hb, se := MapAt.below h.se hb }
end Go.Proofs.YthhfakkfdohcpaaGreat
/- The search for a circle. No condition. -/
namespace Go.Proofs.YthhfakkfdohcpaaGreat
open Go.RowKit Go.ChangeMaps Go.MapKept
def itn (W : World) (r : Nat) : List Nat := match W.heap[r]? with | some (.mapIter _ _ sn _) => sn.toList | _ => []
theorem IterAt.itn {W : World} {r m : Nat} {l : List (Value × Value)} {sn : Array Nat} (h : IterAt W r m l sn) : itn W r = sn.toList := by
  unfold Go.Proofs.YthhfakkfdohcpaaGreat.itn
  rw [show W.heap[r]? = _ from h]
def ReTo (w : World) (sm : Nat) (a : Int) (L : Gr) (S : List Int) (k : Int) (e : Ending) (w' : World) : Prop :=
  ((e = .returned (.bool true) ∧ Way L k a) ∨ (e = .returned (.bool false) ∧ ∃ S', Clo L S S' ∧ k ∈ S' ∧ a ∉ S' ∧ SetAt w' sm S')) ∧ But (fun i => i = sm) w w'
def LoRel (w : World) (xb sb gb fb sm g B : Nat) (a b s : Int) (L : Gr) (S : List Int) (k : Int) (it m : Nat) (ks : List Int) (wr : World) : Prop :=
  ∃ Si sn, Env wr xb sb gb fb sm g B a b s L Si ∧ IterAt wr it m (seL ks) sn ∧ Clo L (addI S k) Si ∧ a ∉ Si ∧ (∀ j, j ∈ sn → ∀ y, ks[j]? = some y → y ∈ Si) ∧ But (fun i => i = sm) w wr ∧ it < wr.heap.size
theorem left_push {n : Nat} {sn : Array Nat} {j : Nat} (hj : j < n) (hn : j ∉ sn) : left (List.range n) (sn.push j).toList < left (List.range n) sn.toList :=
  left_lt (fun x hx => by simp at hx ⊢; exact .inl hx) (by simpa using hn) (by simp) (List.mem_range.2 hj)
theorem Env.lt {W : World} {xb sb gb fb sm g B : Nat} {a b s : Int} {L : Gr} {S : List Int} (h : Env W xb sb gb fb sm g B a b s L S) : xb < W.heap.size ∧ sb < W.heap.size ∧ gb < W.heap.size ∧ fb < W.heap.size ∧ g < W.heap.size ∧ sm < W.heap.size ∧ ∀ e ∈ L, e.2.1 < W.heap.size :=
  ⟨h.bx.2.2, h.bs.2.2, h.bg.2.2, h.bf.2.2, h.gr.map.lt, MapAt.lt h.se, fun e he => MapAt.lt (h.gr.set e he)⟩
theorem Env.apart {W W' : World} {xb sb gb fb sm g B it N : Nat} {a b s : Int} {L : Gr} {S : List Int} (h : Env W xb sb gb fb sm g B a b s L S) (hb : But (fun i => i = it) W W') (hN : N ≤ it) (hl : xb < N ∧ sb < N ∧ gb < N ∧ fb < N ∧ g < N ∧ sm < N ∧ ∀ e ∈ L, e.2.1 < N) : Env W' xb sb gb fb sm g B a b s L S :=
  { h with bx := h.bx.but hb (by omega), bs := h.bs.but hb (by omega), bg := h.bg.but hb (by omega), bf := h.bf.but hb (by omega), gr := h.gr.but hb (by omega) (fun e he => by have := hl.2.2.2.2.2.2 e he; omega), se := MapAt.but h.se hb (by omega) }
theorem seL_get {ks : List Int} {j : Nat} {kv v : Value} (h : (seL ks)[j]? = some (kv, v)) : ∃ y, ks[j]? = some y ∧ kv = .int .i64 y ∧ v = .bool true := by
  simp only [seL, List.getElem?_map] at h
  cases hk : ks[j]? with
  | none => rw [hk] at h; simp at h
  | some y =>
    rw [hk] at h
    simp only [Option.map_some, Option.some.injEq, Prod.mk.injEq] at h
    exact ⟨y, rfl, h.1.symm, h.2.symm⟩
set_option maxRecDepth 100000 in
set_option maxHeartbeats 8000000 in
theorem reach_any (L : Gr) (V : List Int) (hV : ∀ x y, Edge L x y → y ∈ V) (xb sb gb fb sm g B : Nat) (a b s : Int) : ∀ (n : Nat) (S : List Int) (k : Int) (w : World), left V S ≤ n → k ∈ V → a ∉ S → Env w xb sb gb fb sm g B a b s L S → Calls Tryz.prog 28 #[.int .i64 k, .pointer (some ⟨xb, 0, none⟩), .pointer (some ⟨sb, 0, none⟩), .pointer (some ⟨gb, 0, none⟩), .pointer (some ⟨fb, 0, none⟩)] w (ReTo w sm a L S k) := by
  intro n
  induction n using Nat.strongRecOn with
  | _ n ih =>
  intro S k w hn hkV haS henv
  have HE := hide henv
  clear henv
  have Hih := hide ih
  clear ih
  have HV := hide hV
  clear hV
  have hrn : ∀ W, (Instr.range 92 (.map none)).run Tryz.prog W = .ok (.pointer (some ⟨W.heap.size, 0, none⟩)) (W.alloc (.mapIter none 0 #[] 0)) := fun _ => by kernel_rfl
  have hz : ∀ w, (zeroValue 92).run Tryz.prog w = .ok (.map none) w := fun w => by kernel_rfl
  have hzb : ∀ w, (zeroValue 4).run Tryz.prog w = .ok (.bool false) w := fun w => by kernel_rfl
  have hse : MapAt w sm (seL S) := HE.out.se
  have qa : w.cell? ⟨xb, 0, none⟩ = some (.int .i64 a) := HE.out.bx.1 0 _ rfl
  have qs : w.cell? ⟨sb, 0, none⟩ = some (.map (some sm)) := HE.out.bs.1 0 _ rfl
  go_enter Tryz.func28, Tryz.ntmps28
  by_cases hka : k = a
  · subst hka
    go_wp2_with fail
    go_ret
    exact ⟨.inl ⟨rfl, .here k⟩, But.refl _ _⟩
  · by_cases hks : k ∈ S
    · obtain ⟨j, hh, -⟩ := seL_hit hks
      go_wp2_with (first
        | ((with_reducible refine wpList_lookup_hit ?_ ?_ (.tmp 12) (.tmp 13) false ?_ sm (.int .i64 k) _ _ (seL S) ?_ ?_ Tryz.underlying92 hse (fun w => check_int_any _ _ w) hh ?_); (focus rfl); (focus rfl); (focus rfl); (focus rfl); (focus rfl); skip))
      go_ret
      exact ⟨.inr ⟨rfl, S, Clo.refl L S, hks, haS, HE.out.se⟩, But.refl _ _⟩
    · have hms := seL_miss hks
      go_upto_region 6 with (first
        | ((with_reducible refine wpList_lookup_miss ?_ ?_ (.tmp 12) (.tmp 13) false ?_ sm (.int .i64 k) (.bool false) (seL S) ?_ ?_ Tryz.underlying92 hse (fun w => check_int_any _ _ w) hms hzb ?_); (focus rfl); (focus rfl); (focus rfl); (focus rfl); (focus rfl); skip)
        | ((with_reducible refine wpList_set_add ?_ ?_ ?_ (.tmp 15) (.tmp 16) (.const (.bool true)) ?_ sm k S ?_ ?_ ?_ HE.out.se ?_); (focus rfl); (focus rfl); (focus rfl); (focus rfl); (focus rfl); (focus rfl); (focus rfl); intro V1 hS hT; have HE1 := hide (HE.out.but hT hS); have HT := hide hT; clear hS hT))
      clear qa qs hms hse
      have ha1 : a ∉ addI S k := fun h => by rcases mem_addI.1 h with h | h; exact haS h; exact hka h.symm
      have hk1 : k ∈ addI S k := mem_addI.2 (.inr rfl)
      have hl1 : left V (addI S k) < left V S := left_lt (fun x hx => mem_addI.2 (.inl hx)) hks hk1 hkV
      have qg : V1.cell? ⟨gb, 0, none⟩ = some (.map (some g)) := HE1.out.bg.1 0 _ rfl
      by_cases hkL : k ∈ L.map (·.1)
      · obtain ⟨jj, m, ks, hh, hmem⟩ := graph_hit HE1.out.gr hkL
        have Hmem := hide hmem
        have hsm : MapAt V1 m (seL ks) := HE1.out.gr.set _ hmem
        go_upto_block 0 with (first
          | ((with_reducible refine wpList_lookup_hit ?_ ?_ (.tmp 17) (.tmp 18) false ?_ g (.int .i64 k) _ _ (grL L) ?_ ?_ Tryz.underlying69 HE1.out.gr.map (fun w => check_int_any _ _ w) hh ?_); (focus rfl); (focus rfl); (focus rfl); (focus rfl); (focus rfl); skip)
          | (at_range; refine wpList_range_at rfl rfl (.tmp 19) rfl m (seL ks) rfl Tryz.underlying92 hsm ?_; intro V2 hit hz2 hbV; have HI := hide hit; have HE2 := hide (HE1.out.below hbV); have HB2 := hide hbV; have Hz2 := hide hz2; clear hit hz2 hbV))
        clear qg hh hmem hsm
        obtain ⟨it, hit⟩ : ∃ q, q = V1.heap.size := ⟨_, rfl⟩
        have Hit : Hid (w.heap.size ≤ it) := hide (by rw [hit]; exact HT.out.size)
        rw [← hit] at HI Hz2 ⊢
        clear hit
        go_frame
        go_wp2_with fail
        have Hlt := hide HE.out.lt
        go_loopw [7] (fun _ wr => LoRel w xb sb gb fb sm g B a b s L S k it m ks wr) (fun _ wr => left (List.range ks.length) (itn wr it))
        case atStart => exact ⟨addI S k, #[], HE2.out, HI.out, Clo.refl _ _, ha1, fun j hj => by simp at hj, HT.out.afterBelow HB2.out, by have := Hz2.out; omega⟩
        case round =>
        obtain ⟨Si, sn, hE, hI, hC, haSi, hsn, hB, hitl⟩ := hrel
        have hMi : MapAt wr m (seL ks) := hE.gr.set _ Hmem.out
        have hedge : ∀ y, y ∈ ks → Edge L k y := fun y hy => ⟨m, ks, Hmem.out, hy⟩
        by_cases hall : ∀ j, j < (seL ks).length → j ∈ sn
        · go_wp2_with (first
            | (at_next; refine wpList_next_at rfl rfl (.tmp 20) rfl it m (seL ks) sn rfl hI hMi ?_ (fun j kv v w1 hj hns => absurd (hall j (List.getElem?_eq_some_iff.1 hj).1) hns); intro _))
          go_ret
          refine ⟨.inr ⟨rfl, Si, Clo.node hC (fun y hy => ?_), hC.1 k hk1, haSi, hE.se⟩, hB⟩
          obtain ⟨m', ks', he, hy'⟩ := hy
          have hq := nodup_inj (f := (·.1)) hE.gr.keys he Hmem.out rfl
          simp only [Prod.mk.injEq] at hq
          obtain ⟨-, rfl, rfl⟩ := hq
          obtain ⟨j, hj⟩ := List.getElem?_of_mem hy'
          exact hsn j (hall j (by simp only [seL, List.length_map]; exact (List.getElem?_eq_some_iff.1 hj).1)) y hj
        · have HEi := hide hE
          have HIi := hide hI
          have HCi := hide hC
          have Hsn := hide hsn
          have HBi := hide hB
          have Hitl := hide hitl
          clear hE hI hC hsn hB hitl
          go_wp2_with (first
            | (at_next; refine wpList_next_at rfl rfl (.tmp 20) rfl it m (seL ks) sn rfl HIi.out hMi (fun hd => absurd hd hall) ?_; intro j kv v w1 hj hns hi1 hm1 hb1 hen; obtain ⟨y, hy, rfl, rfl⟩ := seL_get hj; have HEj := hide (HEi.out.apart hb1 Hit.out Hlt.out); have HIj := hide hi1; have HBj := hide (HBi.out.thenNew hb1 (fun i e => .inr (by have := Hit.out; omega))); have Hy := hide hy; have Hns := hide hns; have Hszj := hide hb1.size; have qf : w1.cell? ⟨fb, 0, none⟩ = some (.func (.func 28) #[] #[.pointer (some ⟨xb, 0, none⟩), .pointer (some ⟨sb, 0, none⟩), .pointer (some ⟨gb, 0, none⟩), .pointer (some ⟨fb, 0, none⟩)]) := HEj.out.bf.1 0 _ rfl; clear hj hns hi1 hm1 hb1 hy hMi hall)
            | (go_at_call 28; refine (Hih.out (left V (addI S k)) (by omega) Si y _ (left_mono HCi.out.1 V) (HV.out k y (hedge y (List.mem_of_getElem? Hy.out))) haSi HEj.out).mono ?_; rintro e w2 ⟨hres, hbut⟩; have HT2 := hide hbut; clear hbut; rcases hres with ⟨rfl, hway⟩ | ⟨rfl, S2, hc2, hy2, ha2, hs2⟩))
          · go_ret
            exact ⟨.inl ⟨rfl, .step (hedge y (List.mem_of_getElem? Hy.out)) hway⟩, HBj.out.trans HT2.out⟩
          · go_roundw
            case rel =>
              refine ⟨S2, sn.push j, HEj.out.but HT2.out hs2, HIj.out.but HT2.out (by have h1 := Hit.out; have h2 := Hlt.out.2.2.2.2.2.1; omega), HCi.out.trans hc2, ha2, fun j' hj' y' hy' => ?_, HBj.out.trans HT2.out, by have h1 := Hitl.out; have h2 := Hszj.out; have h3 := HT2.out.size; omega⟩
              rcases Array.mem_push.1 hj' with hj' | rfl
              · exact hc2.1 _ (Hsn.out j' hj' y' hy')
              · have h1 := Hy.out
                rw [hy'] at h1
                injection h1 with h1
                rw [h1]
                exact hy2
            case measure =>
              rw [(HIj.out.but HT2.out (by have h1 := Hit.out; have h2 := Hlt.out.2.2.2.2.2.1; omega)).itn, HIi.out.itn]
              exact left_push (List.getElem?_eq_some_iff.1 Hy.out).1 Hns.out
      · have hmL := graph_miss hkL
        have hmg : MapAt V1 g (grL L) := HE1.out.gr.map
        have hob : (V1.alloc (.mapIter none 0 #[] 0)).heap[V1.heap.size]? = some (.mapIter none 0 #[] 0) := Go.heap_alloc_new V1 _
        have hnn : (Instr.next (.pointer (some ⟨V1.heap.size, 0, none⟩)) false 0).run Tryz.prog (V1.alloc (.mapIter none 0 #[] 0)) = .ok (.tuple #[.bool false]) (V1.alloc (.mapIter none 0 #[] 0)) := by
          have hgo : (getObj V1.heap.size).run Tryz.prog (V1.alloc (.mapIter none 0 #[] 0)) = .ok (.mapIter none 0 #[] 0) (V1.alloc (.mapIter none 0 #[] 0)) := by
            simp only [getObj, Sem.run]
            rw [hob]
          simp only [Instr.next, Sem.run_bind, Result.andThen, hgo, Sem.run_pure]
        go_upto_block 0 with (first
          | ((with_reducible refine wpList_lookup_miss ?_ ?_ (.tmp 17) (.tmp 18) false ?_ g (.int .i64 k) (.map none) (grL L) ?_ ?_ Tryz.underlying69 hmg (fun w => check_int_any _ _ w) hmL hz ?_); (focus rfl); (focus rfl); (focus rfl); (focus rfl); (focus rfl); skip))
        go_wp2_with fail
        refine wp_loop_rounds 1 ?_
        rw [rounds_succ]
        go_wp2_with fail
        go_ret
        refine ⟨.inr ⟨rfl, addI S k, Clo.node (Clo.refl _ _) (fun y hy => ?_), hk1, ha1, MapAt.below HE1.out.se ((Below.refl _ V1).alloc (Nat.le_refl _) _)⟩, HT.out.alloc _⟩
        obtain ⟨m', ks', he, -⟩ := hy
        exact absurd (List.mem_map.2 ⟨_, he, rfl⟩) hkL
end Go.Proofs.YthhfakkfdohcpaaGreat
