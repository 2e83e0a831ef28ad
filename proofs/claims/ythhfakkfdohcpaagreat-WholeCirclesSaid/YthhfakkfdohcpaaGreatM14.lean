/- A range over a map whose entries are known one by one. No condition. -/
import Derived.Test.YthhfakkfdohcpaaGreatM06
import Derived.Maps.RangeWalk
import Derived.Maps.RangeRun
import Derived.Test.YthhfakkfdohcpaaGreatM01
import Derived.Test.YthhfakkfdohcpaaGreatM02
import Derived.Test.YthhfakkfdohcpaaGreatM12
import Derived.Test.YthhfakkfdohcpaaGreatM13
import Derived.Test.YthhfakkfdohcpaaGreatShelf
import Derived.Deep.MidRow
namespace Go.Proofs.YthhfakkfdohcpaaGreat
open Go.RowKit Go.ChangeMaps Go.MapKept
/-- The iterator of a map, these entries of which have come. -/
def IterAt (W : World) (r b : Nat) (l : List (Value × Value)) (sn : Array Nat) : Prop := W.heap[r]? = some (.mapIter (some b) l.length sn l.length)
theorem IterAt.but {S : Nat → Prop} {W W' : World} {r b : Nat} {l : List (Value × Value)} {sn : Array Nat} (h : IterAt W r b l sn) (hb : But S W W') (hs : ¬ S r) : IterAt W' r b l sn := (hb.block r (Array.getElem?_eq_some_iff.1 h).1 hs).trans h
theorem IterAt.below {W W' : World} {r b : Nat} {l : List (Value × Value)} {sn : Array Nat} (h : IterAt W r b l sn) (hb : Below W.heap.size W W') : IterAt W' r b l sn := (hb.block r (Array.getElem?_eq_some_iff.1 h).1).trans h
theorem entL_length (l : List (Value × Value)) : (entL l).length = l.length := by simp [entL]
theorem entL_get {l : List (Value × Value)} {j : Nat} {k v : Value} (h : l[j]? = some (k, v)) : (entL l)[j]? = some { key := k, val := v, born := j } := by
  simp [entL, List.getElem?_zipIdx, h]
theorem entL_mem {l : List (Value × Value)} {e : MapEntry} (h : e ∈ entL l) : ∃ k v, l[e.born]? = some (k, v) ∧ e = { key := k, val := v, born := e.born } := by
  obtain ⟨j, hj⟩ := List.getElem?_of_mem h
  have hl : j < l.length := by have := (List.getElem?_eq_some_iff.1 hj).1; rwa [entL_length] at this
  rcases hkv : l[j] with ⟨k, v⟩
  have h1 : l[j]? = some (k, v) := by rw [List.getElem?_eq_getElem hl, hkv]
  rw [entL_get h1] at hj
  injection hj with hj
  subst hj
  exact ⟨k, v, h1, rfl⟩
theorem entL_born (l : List (Value × Value)) : (entL l).map (·.born) = List.range l.length := by
  simp only [entL, List.map_map]
  have : (fun e : MapEntry => e.born) ∘ (fun q : (Value × Value) × Nat => ({ key := q.1.1, val := q.1.2, born := q.2 } : MapEntry)) = Prod.snd := rfl
  rw [this, List.zipIdx_map_snd]
  simp [List.range_eq_range']
theorem wpList_range_at {P0 : Program} (hP : P0 = Tryz.prog) {ops : Array Oper} {rest : List Oper} {o : Oper} {a : Act} {w : World} {Q : Exit → Act → World → Prop} (hg : o.guard = none) {T Kt Et : TypeId} (x : Operand) (ho : o.op = .range T x)
    (m : Nat) (l : List (Value × Value)) (hx : a.eval x = .map (some m)) (ht : Tryz.prog.underlying T = some (.map Kt Et)) (h : MapAt w m l)
    (hK : ∀ V, IterAt V w.heap.size m l #[] → V.heap.size = w.heap.size + 1 → Below w.heap.size w V → wpList P0 ops Q rest (a.put o.dst (.pointer (some ⟨w.heap.size, 0, none⟩))) V) : wpList P0 ops Q (o :: rest) a w := by
  subst hP
  refine wpList_plain hg fun K' hK' => ?_
  have hgo : (getObj m).run Tryz.prog w = .ok (.map (entL l).toArray l.length) w := MapKept.run_getObj_map h
  unfold Oper.wp
  have hrun : (Instr.range T (.map (some m))).run Tryz.prog w = .ok (.pointer (some ⟨w.heap.size, 0, none⟩)) (w.alloc (.mapIter (some m) l.length #[] l.length)) := by
    simp only [Instr.range, Sem.run_bind, run_underlying ht w, Result.andThen, hgo, newObj, Sem.run]
    rfl
  simp [execOp, ho, hx, hrun, Result.andThen]
  exact hK' _ _ (hK _ (heap_alloc_new w _) (World.size_alloc _ _) ((Below.refl _ w).alloc (Nat.le_refl _) _))
/-- What a step of a range leaves. -/
theorem run_next_is (w : World) (ty : TypeId) (r b : Nat) (l : List (Value × Value)) (sn : Array Nat) (h : IterAt w r b l sn) (hm : MapAt w b l) :
    ((∀ j, j < l.length → j ∈ sn) ∧ (Instr.next (.pointer (some ⟨r, 0, none⟩)) false ty).run Tryz.prog w = .ok (.tuple #[.bool false]) w) ∨
    ∃ j k v w1, l[j]? = some (k, v) ∧ j ∉ sn ∧ IterAt w1 r b l (sn.push j) ∧ MapAt w1 b l ∧ But (fun x => x = r) w w1 ∧
      (Instr.next (.pointer (some ⟨r, 0, none⟩)) false ty).run Tryz.prog w = .ok (.tuple #[.bool true, k, v]) w1 ∧ (Instr.entry (.pointer (some ⟨r, 0, none⟩))).run Tryz.prog w1 = .ok (.tuple #[k, v]) w1 := by
  have hrb : r ≠ b := by
    rintro rfl
    have := h.symm.trans hm
    injection this with this
    cases this
  have hr := (Array.getElem?_eq_some_iff.1 h).1
  rcases run_next_at (P := Tryz.prog) w ty r b l.length l.length sn (entL l).toArray l.length h hm (fun x hx => by
      obtain ⟨k, v, hk, -⟩ := entL_mem (by simpa using hx)
      exact (List.getElem?_eq_some_iff.1 hk).1) (Nat.le_refl _) with ⟨h0, hrun⟩ | ⟨e, he, w1, hw1, hrun⟩
  · refine .inl ⟨fun j hj => ?_, hrun⟩
    rcases hkv : l[j] with ⟨k, v⟩
    have h1 : l[j]? = some (k, v) := by rw [List.getElem?_eq_getElem hj, hkv]
    have h2 := List.mem_of_getElem? (entL_get h1)
    have h3 : leftOf (entL l).toArray sn = #[] := Array.eq_empty_of_size_eq_zero h0
    unfold leftOf at h3
    rw [Array.filter_eq_empty_iff] at h3
    have := h3 _ (by simpa using h2)
    simpa using this
  · unfold leftOf at he
    simp only [Array.mem_toList_iff, Array.mem_filter] at he
    obtain ⟨he1, he2⟩ := he
    have he1' : e ∈ entL l := by simpa using he1
    obtain ⟨k, v, hk, hee⟩ := entL_mem he1'
    have hw1h : w1.heap = w.heap := by rcases hw1 with rfl | rfl <;> rfl
    have hbut : But (fun x => x = r) w (setBlock w1 r (.mapIter (some b) l.length (sn.push e.born) l.length)) :=
      ⟨by rcases hw1 with rfl | rfl <;> rfl, by rcases hw1 with rfl | rfl <;> rfl, by rcases hw1 with rfl | rfl <;> rfl, by simp [setBlock, hw1h], fun k _ hk => by
        simp only [setBlock, hw1h]
        rw [Array.getElem?_setIfInBounds_ne (fun e => hk e.symm)]⟩
    refine .inr ⟨e.born, k, v, _, hk, by simpa using he2, ?_, MapAt.but hm hbut (fun e => hrb e.symm), hbut, ?_, ?_⟩
    · show (setBlock w1 r _).heap[r]? = _
      simp only [setBlock, hw1h]
      rw [Array.getElem?_setIfInBounds_self_of_lt hr]
    · rw [hrun, hee]
    · have := run_entry_at (P := Tryz.prog) (setBlock w1 r (.mapIter (some b) l.length (sn.push e.born) l.length)) r b l.length sn (entL l).toArray l.length e (by
        simp only [setBlock, hw1h]
        rw [Array.getElem?_setIfInBounds_self_of_lt hr]) (MapAt.but hm hbut (fun e => hrb e.symm)) (by simpa using he1') (by
        rw [List.toList_toArray, entL_born]; exact List.nodup_range)
      rw [this, hee]
theorem wpList_next_at {P0 : Program} (hP : P0 = Tryz.prog) {ops : Array Oper} {rest : List Oper} {o : Oper} {a : Act} {w : World} {Q : Exit → Act → World → Prop} (hg : o.guard = none) (x : Operand) (ho : o.op = .next x false)
    (r b : Nat) (l : List (Value × Value)) (sn : Array Nat) (hx : a.eval x = .pointer (some ⟨r, 0, none⟩)) (h : IterAt w r b l sn) (hm : MapAt w b l)
    (hDone : (∀ j, j < l.length → j ∈ sn) → wpList P0 ops Q rest (a.put o.dst (.tuple #[.bool false])) w)
    (hMore : ∀ j k v w1, l[j]? = some (k, v) → j ∉ sn → IterAt w1 r b l (sn.push j) → MapAt w1 b l → But (fun x => x = r) w w1 → (Instr.entry (.pointer (some ⟨r, 0, none⟩))).run Tryz.prog w1 = .ok (.tuple #[k, v]) w1 →
      wpList P0 ops Q rest (a.put o.dst (.tuple #[.bool true, k, v])) w1) : wpList P0 ops Q (o :: rest) a w := by
  subst hP
  refine wpList_plain hg fun K' hK' => ?_
  unfold Oper.wp
  rcases run_next_is w o.type r b l sn h hm with ⟨h1, hrun⟩ | ⟨j, k, v, w1, h1, h2, h3, h4, h5, hrun, h6⟩
  · simp [execOp, ho, hx, hrun, Result.andThen]
    exact hK' _ _ (hDone h1)
  · simp [execOp, ho, hx, hrun, Result.andThen]
    exact hK' _ _ (hMore j k v w1 h1 h2 h3 h4 h5 h6)
end Go.Proofs.YthhfakkfdohcpaaGreat
/- slices.SortFunc at no element or one. No condition. -/
namespace Go.Proofs.YthhfakkfdohcpaaGreat
open Go.RowKit
set_option maxRecDepth 100000 in
set_option maxHeartbeats 1000000 in
theorem len64_small (n : Int) (hn : n = 0 ∨ n = 1) (w : World) : Calls Tryz.prog 54 #[.int .u64 n] w fun e w' => e = .returned (.int .i64 n) ∧ w = w' := by
  rcases hn with rfl | rfl
  all_goals
    go_enter Tryz.func54, Tryz.ntmps54
    go_wp2
    go_ret
    exact ⟨by kernel_rfl, rfl⟩
set_option maxRecDepth 100000 in
set_option maxHeartbeats 1000000 in
theorem len_small (n : Int) (hn : n = 0 ∨ n = 1) (w : World) : Calls Tryz.prog 31 #[.int .u64 n] w fun e w' => e = .returned (.int .i64 n) ∧ w = w' := by
  go_enter Tryz.func31, Tryz.ntmps31
  go_wp2_with (go_at_call 54; refine (len64_small n hn _).mono ?_; rintro e w1 ⟨rfl, rfl⟩)
  go_ret
  exact ⟨rfl, rfl⟩
set_option maxRecDepth 100000 in
set_option maxHeartbeats 1000000 in
theorem ins_pair_small (A : Option Addr) (n c : Nat) (hn : n ≤ 1) (f : Value) (w : World) : Calls Tryz.prog 45 #[.slice A n c, .int .i64 0, .int .i64 n, f] w fun e w' => e = .returned (.tuple #[]) ∧ w = w' := by
  have h1 : decide (1 < (n : Int)) = false := by simp; omega
  go_enter Tryz.func45, Tryz.ntmps45
  go_wp2
  go_rounds 1
  go_end0
  exact ⟨rfl, rfl⟩
set_option maxRecDepth 100000 in
set_option maxHeartbeats 1000000 in
theorem pdq_pair_small (A : Option Addr) (n c : Nat) (hn : n ≤ 1) (m : Int) (f : Value) (w : World) : Calls Tryz.prog 30 #[.slice A n c, .int .i64 0, .int .i64 n, .int .i64 m, f] w fun e w' => e = .returned (.tuple #[]) ∧ w = w' := by
  have h1 : (n : Int) ≤ 12 := by omega
  go_enter Tryz.func30, Tryz.ntmps30
  go_wp2
  refine wp_loop_rounds 1 ?_
  rw [rounds_succ]
  go_wp2_with (go_at_call 45; refine (ins_pair_small A n c hn f _).mono ?_; rintro e w1 ⟨rfl, rfl⟩)
  exact bodyPost_ret (by simp [results, Tryz.results30, go_sem]) rfl ⟨rfl, rfl⟩
set_option maxRecDepth 100000 in
set_option maxHeartbeats 1000000 in
theorem sort_pair_small (A : Option Addr) (n c : Nat) (hn : n ≤ 1) (f : Value) (w : World) : Calls Tryz.prog 16 #[.slice A n c, f] w fun e w' => e = .returned (.tuple #[]) ∧ w = w' := by
  go_enter Tryz.func16, Tryz.ntmps16
  go_wp2_with (first
    | (go_at_call 31; refine (len_small n (by omega) _).mono ?_; rintro e w1 ⟨rfl, rfl⟩)
    | (go_at_call 30; refine (pdq_pair_small A n c hn _ f _).mono ?_; rintro e w1 ⟨rfl, rfl⟩))
  go_end0
  exact ⟨rfl, rfl⟩
set_option maxRecDepth 100000 in
set_option maxHeartbeats 1000000 in
theorem ins_finding_small (A : Option Addr) (n c : Nat) (hn : n ≤ 1) (f : Value) (w : World) : Calls Tryz.prog 174 #[.slice A n c, .int .i64 0, .int .i64 n, f] w fun e w' => e = .returned (.tuple #[]) ∧ w = w' := by
  have h1 : decide (1 < (n : Int)) = false := by simp; omega
  go_enter Tryz.func174, Tryz.ntmps174
  go_wp2
  go_rounds 1
  go_end0
  exact ⟨rfl, rfl⟩
set_option maxRecDepth 100000 in
set_option maxHeartbeats 1000000 in
theorem pdq_finding_small (A : Option Addr) (n c : Nat) (hn : n ≤ 1) (m : Int) (f : Value) (w : World) : Calls Tryz.prog 149 #[.slice A n c, .int .i64 0, .int .i64 n, .int .i64 m, f] w fun e w' => e = .returned (.tuple #[]) ∧ w = w' := by
  have h1 : (n : Int) ≤ 12 := by omega
  go_enter Tryz.func149, Tryz.ntmps149
  go_wp2
  refine wp_loop_rounds 1 ?_
  rw [rounds_succ]
  go_wp2_with (go_at_call 174; refine (ins_finding_small A n c hn f _).mono ?_; rintro e w1 ⟨rfl, rfl⟩)
  exact bodyPost_ret (by simp [results, Tryz.results149, go_sem]) rfl ⟨rfl, rfl⟩
set_option maxRecDepth 100000 in
set_option maxHeartbeats 1000000 in
theorem sort_finding_small (A : Option Addr) (n c : Nat) (hn : n ≤ 1) (f : Value) (w : World) : Calls Tryz.prog 122 #[.slice A n c, f] w fun e w' => e = .returned (.tuple #[]) ∧ w = w' := by
  go_enter Tryz.func122, Tryz.ntmps122
  go_wp2_with (first
    | (go_at_call 31; refine (len_small n (by omega) _).mono ?_; rintro e w1 ⟨rfl, rfl⟩)
    | (go_at_call 149; refine (pdq_finding_small A n c hn _ f _).mono ?_; rintro e w1 ⟨rfl, rfl⟩))
  go_end0
  exact ⟨rfl, rfl⟩
set_option maxRecDepth 100000 in
set_option maxHeartbeats 1000000 in
theorem ins_int_small (A : Option Addr) (n c : Nat) (hn : n ≤ 1) (f : Value) (w : World) : Calls Tryz.prog 188 #[.slice A n c, .int .i64 0, .int .i64 n, f] w fun e w' => e = .returned (.tuple #[]) ∧ w = w' := by
  have h1 : decide (1 < (n : Int)) = false := by simp; omega
  go_enter Tryz.func188, Tryz.ntmps188
  go_wp2
  go_rounds 1
  go_end0
  exact ⟨rfl, rfl⟩
set_option maxRecDepth 100000 in
set_option maxHeartbeats 1000000 in
theorem pdq_int_small (A : Option Addr) (n c : Nat) (hn : n ≤ 1) (m : Int) (f : Value) (w : World) : Calls Tryz.prog 164 #[.slice A n c, .int .i64 0, .int .i64 n, .int .i64 m, f] w fun e w' => e = .returned (.tuple #[]) ∧ w = w' := by
  have h1 : (n : Int) ≤ 12 := by omega
  go_enter Tryz.func164, Tryz.ntmps164
  go_wp2
  refine wp_loop_rounds 1 ?_
  rw [rounds_succ]
  go_wp2_with (go_at_call 188; refine (ins_int_small A n c hn f _).mono ?_; rintro e w1 ⟨rfl, rfl⟩)
  exact bodyPost_ret (by simp [results, Tryz.results164, go_sem]) rfl ⟨rfl, rfl⟩
set_option maxRecDepth 100000 in
set_option maxHeartbeats 1000000 in
theorem sort_int_small (A : Option Addr) (n c : Nat) (hn : n ≤ 1) (f : Value) (w : World) : Calls Tryz.prog 136 #[.slice A n c, f] w fun e w' => e = .returned (.tuple #[]) ∧ w = w' := by
  go_enter Tryz.func136, Tryz.ntmps136
  go_wp2_with (first
    | (go_at_call 31; refine (len_small n (by omega) _).mono ?_; rintro e w1 ⟨rfl, rfl⟩)
    | (go_at_call 164; refine (pdq_int_small A n c hn _ f _).mono ?_; rintro e w1 ⟨rfl, rfl⟩))
  go_end0
  exact ⟨rfl, rfl⟩
end Go.Proofs.YthhfakkfdohcpaaGreat
/- The keys of small maps. No condition. -/
namespace Go.Proofs.YthhfakkfdohcpaaGreat
open Go.RowKit Go.ChangeMaps Go.MapKept
set_option maxRecDepth 100000 in
set_option maxHeartbeats 1000000 in
theorem keys_int_nil (m : Nat) (f : Value) (w : World) (h : MapAt w m []) : Calls Tryz.prog 108 #[.map (some m), f] w fun e w' => e = .returned (.slice none 0 0) ∧ Below w.heap.size w w' := by
  have H := hide h; clear h
  go_enter Tryz.func108, Tryz.ntmps108
  go_wp2_with (at_range; refine wpList_range_at rfl rfl (.tmp 7) rfl m [] rfl Tryz.underlying92 H.out ?_; intro V hit hz hbV; have HI := hide hit; have HM := hide (H.out.below hbV); have HB := hide hbV; clear hit hbV hz)
  go_frame
  refine wp_loop_rounds 1 ?_
  rw [rounds_succ]
  go_wp2_with (at_next; refine wpList_next_at rfl rfl (.tmp 8) rfl w.heap.size m [] #[] rfl HI.out HM.out ?_ ?_; rotate_left 1; (intro j k v w1 hj; simp at hj); intro _)
  go_wp2_with (go_at_call 136; refine (sort_int_small none 0 0 (by omega) f _).mono ?_; rintro e w1 ⟨rfl, rfl⟩)
  go_ret
  exact ⟨rfl, HB.out⟩
set_option maxRecDepth 100000 in
set_option maxHeartbeats 1000000 in
theorem keys_finding_nil (m : Nat) (f : Value) (w : World) (h : MapAt w m []) : Calls Tryz.prog 104 #[.map (some m), f] w fun e w' => e = .returned (.slice none 0 0) ∧ Below w.heap.size w w' := by
  have H := hide h; clear h
  go_enter Tryz.func104, Tryz.ntmps104
  go_wp2_with (at_range; refine wpList_range_at rfl rfl (.tmp 7) rfl m [] rfl Tryz.underlying152 H.out ?_; intro V hit hz hbV; have HI := hide hit; have HM := hide (H.out.below hbV); have HB := hide hbV; clear hit hbV hz)
  go_frame
  refine wp_loop_rounds 1 ?_
  rw [rounds_succ]
  go_wp2_with (at_next; refine wpList_next_at rfl rfl (.tmp 8) rfl w.heap.size m [] #[] rfl HI.out HM.out ?_ ?_; rotate_left 1; (intro j k v w1 hj; simp at hj); intro _)
  go_wp2_with (go_at_call 122; refine (sort_finding_small none 0 0 (by omega) f _).mono ?_; rintro e w1 ⟨rfl, rfl⟩)
  go_ret
  exact ⟨rfl, HB.out⟩
theorem one3 {a b s : Int} : ∀ u ∈ [Value.int .i64 a, .int .i64 b, .int .i64 s], u.oneCell' = true := by
  intro u hu
  simp only [List.mem_cons, List.not_mem_nil, or_false] at hu
  rcases hu with rfl | rfl | rfl <;> rfl
set_option maxRecDepth 100000 in
set_option maxHeartbeats 2000000 in
theorem keys_pair_one (m : Nat) (f : Value) (a b s : Int) (w : World) (h : MapAt w m [(.agg #[.int .i64 a, .int .i64 b, .int .i64 s], .bool true)]) :
    Calls Tryz.prog 106 #[.map (some m), f] w fun e w' => ∃ g cap, e = .returned (.slice (some ⟨g, 0, none⟩) 1 cap) ∧ w.heap.size ≤ g ∧ BoxAt w' g [.int .i64 a, .int .i64 b, .int .i64 s] ∧ Below w.heap.size w w' := by
  have H := hide h; clear h
  go_enter Tryz.func106, Tryz.ntmps106
  go_wp2_with (at_range; refine wpList_range_at rfl rfl (.tmp 7) rfl m _ rfl Tryz.underlying153 H.out ?_; intro V hit hz hbV; have HI := hide hit; have HM := hide (H.out.below hbV); have HB := hide hbV; have Hz := hide hz; clear hit hbV hz)
  go_frame
  refine wp_loop_rounds 2 ?_
  rw [rounds_succ]
  go_wp2_with (first
    | (at_next; refine wpList_next_at rfl rfl (.tmp 8) rfl w.heap.size m _ #[] rfl HI.out HM.out (fun hd => absurd (hd 0 (by simp)) (by simp)) ?_; intro j k v w1 hj hns hi1 hm1 hb1 hen; obtain rfl : j = 0 := (by have := (List.getElem?_eq_some_iff.1 hj).1; simp at this; exact this); simp only [List.getElem?_cons_zero, Option.some.injEq, Prod.mk.injEq] at hj; obtain ⟨rfl, rfl⟩ := hj; have HI1 := hide hi1; have HM1 := hide hm1; have HB1 := hide hb1; clear hns hi1 hm1 hb1)
    | (at_builtin; refine wpList_append_to rfl rfl _ _ 24 29 3 24 elemPair rfl (w.heap.size + 1) (.slice none 0 0) 0 [] rfl (own_nil _ _ _ _) _ 1 1 [.int .i64 a, .int .i64 b, .int .i64 s] rfl (box_new _ [.int .i64 a, .int .i64 b, .int .i64 s] _ (by simp)) rfl one3 (by omega) (by omega) (by have := HB1.out.size; have := Hz.out; simp; omega) ?_; intro g' cap w2 hA; have HA := hide hA; clear hA))
  obtain ⟨hb2, hg2⟩ := HA.out.first
  have hs1 : w.heap.size + 1 ≤ w1.heap.size := by have := HB1.out.size; have := Hz.out; omega
  have hb3 : Below w1.heap.size w1 w2 := (((Below.refl _ w1).alloc (Nat.le_refl _) _).alloc (by simp) _).trans (hb2.mono (by simp; omega))
  have HI2 := hide (HI1.out.below hb3)
  have HM2 := hide (HM1.out.below hb3)
  have HB2 : Hid (Below w.heap.size w w2) := hide ((HB.out.trans (HB1.out.below (by have := Hz.out; omega) (fun k hk => by omega))).trans (hb3.mono (by omega)))
  have HG2 : Hid (w.heap.size ≤ g') := hide (by simp at hg2; omega)
  clear hb2 hg2 hs1 hb3
  rw [rounds_succ]
  go_wp2_with (first
    | (at_next; refine wpList_next_at rfl rfl (.tmp 8) rfl w.heap.size m _ (#[].push 0) rfl HI2.out HM2.out ?_ (fun j k v w3 hj hns => absurd (show j = 0 by have := (List.getElem?_eq_some_iff.1 hj).1; simp at this; exact this) (fun e => hns (by simp [e]))); intro _)
    | (go_at_call 16; refine (sort_pair_small _ 1 cap (by omega) f _).mono ?_; rintro e w3 ⟨rfl, rfl⟩))
  go_ret
  exact ⟨g', cap, rfl, HG2.out, HA.out.box, HB2.out⟩
end Go.Proofs.YthhfakkfdohcpaaGreat
/- The expression 0 is evaluated, without rules. No condition. -/
namespace Go.Proofs.YthhfakkfdohcpaaGreat
open Go.RowKit Go.ChangeMaps Go.MapKept
/-- The expression 0. -/
abbrev numE : Value := .agg #[.int .i64 1, .int .i64 0, .int .i64 0, .slice none 0 0]
set_option maxRecDepth 100000 in
set_option maxHeartbeats 4000000 in
theorem facteval_num (p0 p1 p2 p3 p4 p5 p6 p7 p8 p9 p10 p11 q0 q1 q2 q3 q4 q5 q6 q7 : Value) (w : World) :
    Calls Tryz.prog 185 #[.agg #[p0, p1, p2, p3, p4, p5, p6, p7, p8, p9, p10, p11], .agg #[q0, q1, q2, q3, q4, q5, q6, q7], numE] w fun e w' => e = .returned zeroA ∧ Below w.heap.size w w' := by
  go_enter Tryz.func185, Tryz.ntmps185
  go_upto_region 1 with (fail)
  obtain ⟨W, hW⟩ : ∃ V, V = (((w.alloc (.cells [p0, p1, p2, p3, p4, p5, p6, p7, p8, p9, p10, p11].toArray 83)).alloc (.cells [q0, q1, q2, q3, q4, q5, q6, q7].toArray 164)).alloc (.cells [.int .i64 1, .int .i64 0, .int .i64 0, .slice none 0 0].toArray 116)).alloc (.cells [.int .i64 0, .int .i64 0, .int .i64 0, .int .i64 0, .int .i64 0].toArray 57) := ⟨_, rfl⟩
  obtain ⟨b4, b5, b6, b8, hz, hbW⟩ := boxes4 w _ _ _ _ _ _ _ _ W hW
  rw [← hW]
  clear hW
  have k0 := b6.1 0 _ rfl
  have k2 := b6.1 2 _ rfl
  have H8 := hide b8
  clear b4 b5 b6 b8
  go_wp2_with (go_at_call 142; refine (of_zero _).mono ?_; rintro e w1 ⟨rfl, hb1⟩; have H9 := hide (H8.out.below hb1); obtain ⟨r0, r1, r2, r3, r4, rf, rz⟩ := H9.out.five; have hB1 : Below w.heap.size w w1 := hbW.trans (hb1.mono hbW.size))
  have HF := H9.out.set5 (.int .i64 0) (.int .i64 0) (.int .i64 1) (.int .i64 0) (.int .i64 0)
  obtain ⟨t0, t1, t2, t3, t4, tf, tz⟩ := HF.five
  exact bodyPost_ret (by simp [results, Tryz.results185, go_sem, t0, t1, t2, t3, t4]) rfl ⟨rfl, (by repeat (first | with_reducible exact hB1 | with_reducible exact Below.refl _ _ | with_reducible refine Below.setCell ?_ (by simp <;> omega) _ | with_reducible refine below_drewN ?_ _ | with_reducible refine Below.drew ?_ | with_reducible refine Below.alloc ?_ (by simp <;> omega) _ | with_reducible refine Below.setCell ?_ (by simp <;> omega) _ | with_reducible refine Below.alloc ?_ (by simp <;> omega) _ | with_reducible refine Below.setCell ?_ (by omega) _ | with_reducible refine Below.alloc ?_ (by omega) _ | omega | (simp; done)))⟩
set_option maxRecDepth 100000 in
set_option maxHeartbeats 4000000 in
theorem usageeval_num (m : Value) (p0 p1 p2 p3 p4 p5 p6 p7 p8 p9 p10 p11 q0 q1 q2 q3 q4 q5 q6 q7 : Value) (w : World) :
    Calls Tryz.prog 160 #[m, .agg #[p0, p1, p2, p3, p4, p5, p6, p7, p8, p9, p10, p11], .slice none 0 0, .agg #[q0, q1, q2, q3, q4, q5, q6, q7], numE] w fun e w' => e = .returned zeroA ∧ Below w.heap.size w w' := by
  go_enter Tryz.func160, Tryz.ntmps160
  go_upto_region 1 with (fail)
  obtain ⟨W, hW⟩ : ∃ V, V = (((w.alloc (.cells [p0, p1, p2, p3, p4, p5, p6, p7, p8, p9, p10, p11].toArray 83)).alloc (.cells [q0, q1, q2, q3, q4, q5, q6, q7].toArray 164)).alloc (.cells [.int .i64 1, .int .i64 0, .int .i64 0, .slice none 0 0].toArray 116)).alloc (.cells [.int .i64 0, .int .i64 0, .int .i64 0, .int .i64 0, .int .i64 0].toArray 57) := ⟨_, rfl⟩
  obtain ⟨b4, b5, b6, b8, hz, hbW⟩ := boxes4 w _ _ _ _ _ _ _ _ W hW
  rw [← hW]
  clear hW
  have k0 := b6.1 0 _ rfl
  have k1 := b6.1 1 _ rfl
  have k2 := b6.1 2 _ rfl
  have k3 := b6.1 3 _ rfl
  have B4 := hide b4
  have B5 := hide b5
  have H8 := hide b8
  clear b4 b5 b6 b8
  go_wp2_with (first
    | ((with_reducible refine wpList_load_mid ?_ 83 (.tmp 6) ?_ (w.heap.size) 0 ?_ [p0, p1, p2, p3, p4, p5, p6, p7, p8, p9, p10, p11] _ ?_ Tryz.underlying83 ?_ ?_ ?_); (focus rfl); (focus rfl); (focus rfl); (focus exact B4.out.whole); (focus rfl); (focus kernel_rfl))
    | ((with_reducible refine wpList_load_mid ?_ 164 (.tmp 8) ?_ (w.heap.size + 1) 0 ?_ [q0, q1, q2, q3, q4, q5, q6, q7] _ ?_ Tryz.underlying164 ?_ ?_ ?_); (focus rfl); (focus rfl); (focus rfl); (focus exact B5.out.whole); (focus rfl); (focus kernel_rfl))
    | (go_at_call 185; refine (facteval_num p0 p1 p2 p3 p4 p5 p6 p7 p8 p9 p10 p11 q0 q1 q2 q3 q4 q5 q6 q7 _).mono ?_; rintro e w1 ⟨rfl, hb1⟩; have H9 := hide (H8.out.below hb1); obtain ⟨r0, r1, r2, r3, r4, rf, rz⟩ := H9.out.five; have hB1 : Below w.heap.size w w1 := hbW.trans (hb1.mono hbW.size)))
  have HF := H9.out.set5 (.int .i64 0) (.int .i64 0) (.int .i64 1) (.int .i64 0) (.int .i64 0)
  obtain ⟨t0, t1, t2, t3, t4, tf, tz⟩ := HF.five
  exact bodyPost_ret (by simp [results, Tryz.results160, go_sem, t0, t1, t2, t3, t4]) rfl ⟨rfl, (by repeat (first | with_reducible exact hB1 | with_reducible exact Below.refl _ _ | with_reducible refine Below.setCell ?_ (by simp <;> omega) _ | with_reducible refine below_drewN ?_ _ | with_reducible refine Below.drew ?_ | with_reducible refine Below.alloc ?_ (by simp <;> omega) _ | with_reducible refine Below.setCell ?_ (by simp <;> omega) _ | with_reducible refine Below.alloc ?_ (by simp <;> omega) _ | with_reducible refine Below.setCell ?_ (by omega) _ | with_reducible refine Below.alloc ?_ (by omega) _ | omega | (simp; done)))⟩
set_option maxRecDepth 100000 in
set_option maxHeartbeats 1000000 in
theorem usagelist_nil (m : Nat) (w : World) (h : MapAt w m []) : Calls Tryz.prog 161 #[.map (some m)] w fun e w' => e = .returned (.slice none 0 0) ∧ Below w.heap.size w w' := by
  have H := hide h; clear h
  go_enter Tryz.func161, Tryz.ntmps161
  go_wp2_with (at_range; refine wpList_range_at rfl rfl (.tmp 5) rfl m [] rfl Tryz.underlying262 H.out ?_; intro V hit hz hbV; have HI := hide hit; have HM := hide (H.out.below hbV); have HB := hide hbV; clear hit hbV hz)
  go_frame
  refine wp_loop_rounds 1 ?_
  rw [rounds_succ]
  go_wp2_with (first
    | (at_next; refine wpList_next_at rfl rfl (.tmp 6) rfl w.heap.size m [] #[] rfl HI.out HM.out ?_ ?_; rotate_left 1; (intro j k v w1 hj; simp at hj); intro _)
    | (go_at_call 95; refine (Tryz.slices_Sort_int_none none 0 _).mono ?_; rintro e w1 ⟨rfl, hw1⟩; cases hw1))
  go_ret
  exact ⟨rfl, HB.out⟩
set_option maxRecDepth 100000 in
set_option maxHeartbeats 4000000 in
theorem eval_num (p0 p1 p2 p3 p4 p5 p6 p7 p8 p9 p10 p11 q0 q1 q2 q3 q4 q5 q6 q7 : Value) (w : World) :
    Calls Tryz.prog 129 #[.agg #[p0, p1, p2, p3, p4, p5, p6, p7, p8, p9, p10, p11], .slice none 0 0, .agg #[q0, q1, q2, q3, q4, q5, q6, q7], numE] w fun e w' => e = .returned (.tuple #[zeroA, .slice none 0 0]) ∧ Below w.heap.size w w' := by
  go_enter Tryz.func129, Tryz.ntmps129
  go_upto_region 1 with (fail)
  obtain ⟨W, hW⟩ : ∃ V, V = (((w.alloc (.cells [p0, p1, p2, p3, p4, p5, p6, p7, p8, p9, p10, p11].toArray 83)).alloc (.cells [q0, q1, q2, q3, q4, q5, q6, q7].toArray 164)).alloc (.cells [.int .i64 1, .int .i64 0, .int .i64 0, .slice none 0 0].toArray 116)).alloc (.cells [.int .i64 0, .int .i64 0, .int .i64 0, .int .i64 0, .int .i64 0].toArray 57) := ⟨_, rfl⟩
  obtain ⟨b4, b5, b6, b8, hz, hbW⟩ := boxes4 w _ _ _ _ _ _ _ _ W hW
  rw [← hW]
  clear hW
  have k0 := b6.1 0 _ rfl
  have k1 := b6.1 1 _ rfl
  have k2 := b6.1 2 _ rfl
  have k3 := b6.1 3 _ rfl
  have B4 := hide b4
  have B5 := hide b5
  have H8 := hide b8
  have HbW := hide hbW
  have Hz := hide hz
  clear b4 b5 b6 b8 hbW hz
  have hmm := @run_makeMap Tryz.prog
  go_upto_region 2 with (fail)
  have hM := MapAt.new W
  have hbV := (Below.refl _ W).alloc (Nat.le_refl _) (.map #[] 0)
  obtain ⟨V, hV⟩ : ∃ V, V = W.alloc (.map #[] 0) := ⟨_, rfl⟩
  rw [← hV] at hM hbV ⊢
  clear hV
  have HM := hide hM
  have B4 := hide (B4.out.below hbV)
  have B5 := hide (B5.out.below hbV)
  have H8 := hide (H8.out.below hbV)
  have k0 := (hbV.cell (p := ⟨w.heap.size + 1 + 1, 0, none⟩) (by have := Hz.out; show w.heap.size + 1 + 1 < W.heap.size; omega)).trans k0
  have k1 := (hbV.cell (p := ⟨w.heap.size + 1 + 1, 1, none⟩) (by have := Hz.out; show w.heap.size + 1 + 1 < W.heap.size; omega)).trans k1
  have k2 := (hbV.cell (p := ⟨w.heap.size + 1 + 1, 2, none⟩) (by have := Hz.out; show w.heap.size + 1 + 1 < W.heap.size; omega)).trans k2
  have k3 := (hbV.cell (p := ⟨w.heap.size + 1 + 1, 3, none⟩) (by have := Hz.out; show w.heap.size + 1 + 1 < W.heap.size; omega)).trans k3
  have HbV := hide (HbW.out.trans (hbV.mono HbW.out.size))
  have HsV := hide hbV.size
  clear hM hbV
  go_upto_region 3 with (first
    | ((with_reducible refine wpList_load_mid ?_ 83 (.tmp 4) ?_ (w.heap.size) 0 ?_ [p0, p1, p2, p3, p4, p5, p6, p7, p8, p9, p10, p11] _ ?_ Tryz.underlying83 ?_ ?_ ?_); (focus rfl); (focus rfl); (focus rfl); (focus exact B4.out.whole); (focus rfl); (focus kernel_rfl))
    | ((with_reducible refine wpList_load_mid ?_ 164 (.tmp 6) ?_ (w.heap.size + 1) 0 ?_ [q0, q1, q2, q3, q4, q5, q6, q7] _ ?_ Tryz.underlying164 ?_ ?_ ?_); (focus rfl); (focus rfl); (focus rfl); (focus exact B5.out.whole); (focus rfl); (focus kernel_rfl))
    | (go_at_call 160; refine (usageeval_num _ p0 p1 p2 p3 p4 p5 p6 p7 p8 p9 p10 p11 q0 q1 q2 q3 q4 q5 q6 q7 _).mono ?_; rintro e w1 ⟨rfl, hb1⟩; have HB1 := hide hb1; clear hb1))
  have hb1 := HB1.out
  have hbX := (Below.refl _ w1).alloc (Nat.le_refl _) (.cells [.int .i64 0, .int .i64 0, .int .i64 1, .int .i64 0, .int .i64 0].toArray 57)
  have h11 := BoxAt.new w1 [.int .i64 0, .int .i64 0, .int .i64 1, .int .i64 0, .int .i64 0] 57
  obtain ⟨X, hX⟩ : ∃ X, X = w1.alloc (.cells [.int .i64 0, .int .i64 0, .int .i64 1, .int .i64 0, .int .i64 0].toArray 57) := ⟨_, rfl⟩
  rw [← hX] at hbX h11 ⊢
  clear hX
  have HM := hide ((HM.out.below hb1).below hbX)
  have H8 := hide ((H8.out.below hb1).below hbX)
  have HbX := hide ((HbV.out.trans (hb1.mono HbV.out.size)).trans (hbX.mono (by have := HbV.out.size; have := hb1.size; omega)))
  have Hg := hide (show w.heap.size + 1 + 1 + 1 < w1.heap.size by have := Hz.out; have := HsV.out; have := hb1.size; omega)
  have HsX := hide hbX.size
  obtain ⟨g11, hg11⟩ : ∃ q, q = w1.heap.size := ⟨_, rfl⟩
  obtain ⟨m, hm⟩ : ∃ q, q = W.heap.size := ⟨_, rfl⟩
  rw [← hg11] at h11 Hg ⊢
  rw [← hm] at HM ⊢
  have H11 := hide h11
  clear hg11 h11 hm hb1 hbX HB1
  refine wp_region_held_drew (S := fun w' => BoxAt w' g11 [.int .i64 0, .int .i64 0, .int .i64 1, .int .i64 0, .int .i64 0]) (by kernel_rfl) ?_ (fun hHeld => ?_)
  · exact H11.out.below (Below.refl _ _).drew
  generalize hw0 : World.drew X = w0 at hHeld ⊢
  have HB0 : Hid (Below X.heap.size X w0) := hide (by rw [← hw0]; exact (Below.refl _ X).drew)
  replace HM := hide (HM.out.below HB0.out)
  replace H8 := hide (H8.out.below HB0.out)
  replace H11 := hide (H11.out.below HB0.out)
  clear hw0
  refine take_as 0 (some 19) rfl rfl (by kernel_rfl) (by kernel_rfl) (by kernel_rfl) (fun _ _ _ h => h) (yieldsIf_load_mid (by rfl) 57 (.tmp 11) rfl g11 0 rfl [.int .i64 0, .int .i64 0, .int .i64 1, .int .i64 0, .int .i64 0] _ (fun w2 hSw => hSw.whole) Tryz.underlying57 rfl (by kernel_rfl)) (by assumption) ?_
  try simp only [Act.put, List.setIfInBounds_toArray, List.set_cons_zero, List.set_cons_succ]
  refine take_as 1 (some 20) (v := ?_) rfl rfl (by kernel_rfl) (by kernel_rfl) (by kernel_rfl) (fun _ _ _ h => h) (Or.inl ⟨by rfl, ?_⟩) (by assumption) ?_
  rotate_left 1
  · intro w2 hSw
    go_simp
    try with_reducible rfl
  try simp only [Act.put, List.setIfInBounds_toArray, List.set_cons_zero, List.set_cons_succ]
  refine wpAnyH_ready (rs := [2]) (by kernel_rfl) (by simp) ?_
  refine AllReadyH.cons rfl (fun K hK => ?_) ?_
  · go_simp
    refine (usagelist_nil m _ HM.out).mono ?_
    rintro e w1 ⟨rfl, hbx⟩
    have hbn : Below w0.heap.size w0 w1 := hbx
    have HB1 : Hid (Below X.heap.size X w1) := hide (HB0.out.trans (hbn.mono HB0.out.size))
    replace HM := hide (HM.out.below hbn)
    replace H8 := hide (H8.out.below hbn)
    replace H11 := hide (H11.out.below hbn)
    clear hbn hbx
    go_wp2_with fail
    refine hK.out _ _ ?_ (fun hHeld => ?_)
    · exact H11.out
    clear hK K
    try simp only [Act.put, List.setIfInBounds_toArray, List.set_cons_zero, List.set_cons_succ]
    refine wpAnyH_ready (rs := [3]) (by kernel_rfl) (by simp) ?_
    refine AllReadyH.cons rfl (fun K hK => ?_) ?_
    · refine step_store_as rfl rfl 57 (.tmp 8) (.tmp 19) rfl (w.heap.size + 1 + 1 + 1) 0 [.int .i64 0, .int .i64 0, .int .i64 1, .int .i64 0, .int .i64 0].toArray rfl rfl (H8.out.there 0 _ (by show 0 + 5 ≤ 5; decide)) (by kernel_rfl) (all_oneCell_toArray (by simp [Value.oneCell'])) ?_
      refine after_put 0 [.int .i64 0, .int .i64 0, .int .i64 1, .int .i64 0, .int .i64 0] _ H8.out (by show 0 + 5 ≤ 5; decide) rfl (fun w2 hV5 hT5 => ?_)
      have HV5 := hide hV5
      have HT5 := hide hT5
      clear hV5 hT5
      refine hK.out _ _ ?_ (fun hHeld => ?_)
      · exact H11.out.but HT5.out (by have := Hg.out; omega)
      clear hK K
      try simp only [Act.put, List.setIfInBounds_toArray, List.set_cons_zero, List.set_cons_succ]
      refine take_as 4 (some 9) (v := ?_) rfl rfl (by kernel_rfl) (by kernel_rfl) (by kernel_rfl) (fun _ _ _ h => h) (Or.inl ⟨by rfl, ?_⟩) (by assumption) ?_
      rotate_left 1
      · intro w2 hSw
        go_simp
        try with_reducible rfl
      try simp only [Act.put, List.setIfInBounds_toArray, List.set_cons_zero, List.set_cons_succ]
      refine wpAnyH_done (by kernel_rfl) ?_ _
      go_wp2_with fail
      have hs := HB1.out.size
      exact bodyPost_ret (res_box2 (cs := [.int .i64 0, .int .i64 0, .int .i64 1, .int .i64 0, .int .i64 0]) rfl rfl rfl HV5.out Tryz.underlying57 rfl (by kernel_rfl)) rfl ⟨rfl, HbX.out.trans ((HB1.out.mono HbX.out.size).trans (HT5.out.below (by have := HbX.out.size; omega) (fun k hk => by omega)))⟩
    exact AllReadyH.nil
  exact AllReadyH.nil
end Go.Proofs.YthhfakkfdohcpaaGreat
