/- At: the claims that are in force. Condition: fewer than twenty claims. -/
import Derived.Test.YthpbjceajnaokaaDel2
namespace Go.Proofs.Ythpbjceajnaokaa
open Go.RowKit

def delB (time : Int) (f : Int → Int → Bool) (i : Int) (c : Cl) : Bool := decide (time < c.time) || (c.kind == 4) || f i c.seq

set_option maxRecDepth 100000 in
set_option maxHeartbeats 1000000 in
theorem at1_any (B3 B5 B11 m nn : Nat) (time i : Int) (f : Int → Int → Bool) (c : Cl) (w : World)
    (h3 : w.cell? ⟨B3, 0, none⟩ = some (.int .i64 time)) (h5 : w.cell? ⟨B5, 0, none⟩ = some (.map (some m))) (h11 : w.cell? ⟨B11, 0, none⟩ = some (.int .i64 i)) (hm : BMap2 w m nn f)
    (hi : (Lit.int .i64 i).wf = true) (hs : (Lit.int .i64 c.seq).wf = true) :
    Calls Try.prog 55 #[.agg #[.int .i64 c.firm, .int .i64 c.seq, .int .i64 c.time, .int .i64 c.kind, .int .i64 c.a, .int .u64 c.ref, .int .u64 c.aux, .int .u64 c.prev, .int .u64 c.tag], .pointer (some ⟨B3, 0, none⟩), .pointer (some ⟨B5, 0, none⟩), .pointer (some ⟨B11, 0, none⟩)] w fun e w' => e = .returned (.bool (delB time f i c)) ∧ Below w.heap.size w w' := by
  have b3 := World.block_lt_of_cell? w _ h3
  have b5 := World.block_lt_of_cell? w _ h5
  have b11 := World.block_lt_of_cell? w _ h11
  have hlk := (hm.alloc (.cells (#[.int .i64 c.firm, .int .i64 c.seq, .int .i64 c.time, .int .i64 c.kind, .int .i64 c.a, .int .u64 c.ref, .int .u64 c.aux, .int .u64 c.prev, .int .u64 c.tag]) 29)).look hi hs
  clear hm hi hs
  dsimp only at b3 b5 b11
  by_cases t1 : time < c.time
  · go_enter Try.func55, Try.ntmps55
    go_wp2
    go_ret
    exact ⟨ret_bool (by simp [delB, t1]), (Below.refl _ _).alloc (Nat.le_refl _) _⟩
  · rcases Bool.eq_false_or_eq_true (c.kind == 4) with t2 | t2
    · have T2 := hide t2
      go_enter Try.func55, Try.ntmps55
      go_wp2
      go_ret
      exact ⟨ret_bool (by rw [delB, T2.out]; simp), (Below.refl _ _).alloc (Nat.le_refl _) _⟩
    · have T2 := hide t2
      have T1 := hide t1
      generalize hf : f i c.seq = b at hlk
      have Hf := hide hf; clear hf
      go_enter Try.func55, Try.ntmps55
      go_wp2
      go_ret
      exact ⟨ret_bool (by rw [delB, T2.out, Hf.out]; have h := T1.out; simp; intro h2; omega), (Below.refl _ _).alloc (Nat.le_refl _) _⟩

def goneL (time : Int) (l : List Cl) (s : Int) : Bool := l.any fun d => d.kind == 4 && decide (d.time ≤ time) && d.a == s
def gF (xss : List (List Cl)) (time : Int) (k j : Nat) : Int → Int → Bool := fun i s => (List.range k).any (fun q => (i == (q : Int)) && goneL time (xss[q]?.getD []) s) || ((i == (k : Int)) && goneL time ((xss[k]?.getD []).take j) s)
theorem gF_start (xss : List (List Cl)) (time : Int) : gF xss time 0 0 = fun _ _ => false := by
  funext i s; simp [gF, goneL]
theorem goneL_snoc (time : Int) (l : List Cl) (d : Cl) (s : Int) : goneL time (l ++ [d]) s = (goneL time l s || (d.kind == 4 && decide (d.time ≤ time) && d.a == s)) := by
  simp [goneL, List.any_append]
theorem gF_skip {xss : List (List Cl)} {time : Int} {k j : Nat} {xs : List Cl} {d : Cl} (hx : xss[k]? = some xs) (hd : xs[j]? = some d) (hn : (d.kind == 4 && decide (d.time ≤ time)) = false) : gF xss time k (j + 1) = gF xss time k j := by
  funext i s
  simp only [gF, hx, Option.getD_some, take_snoc hd, goneL_snoc, hn, Bool.false_and, Bool.or_false]
theorem gF_hit {xss : List (List Cl)} {time : Int} {k j : Nat} {xs : List Cl} {d : Cl} (hx : xss[k]? = some xs) (hd : xs[j]? = some d) (hn : (d.kind == 4 && decide (d.time ≤ time)) = true) :
    (fun i s => if i = (k : Int) ∧ s = d.a then true else gF xss time k j i s) = gF xss time k (j + 1) := by
  funext i s
  simp only [gF, hx, Option.getD_some, take_snoc hd, goneL_snoc, hn, Bool.true_and]
  by_cases hi : i = (k : Int)
  · by_cases hs : s = d.a
    · subst hi hs; simp
    · have : (d.a == s) = false := by rw [beq_eq_false_iff_ne]; exact fun e => hs e.symm
      simp [hs, this]
  · have : (i == (k : Int)) = false := by rw [beq_eq_false_iff_ne]; exact hi
    simp [hi, this]
theorem gF_next {xss : List (List Cl)} {time : Int} {k : Nat} {xs : List Cl} (hx : xss[k]? = some xs) : gF xss time k xs.length = gF xss time (k + 1) 0 := by
  funext i s
  simp only [gF, hx, Option.getD_some, List.take_length, List.range_succ, List.any_append, List.any_cons, List.any_nil, Bool.or_false]
  simp [goneL]
def wfC (c : Cl) : Prop := (Lit.int .i64 c.seq).wf = true ∧ (Lit.int .i64 c.a).wf = true
theorem nat_wf {k : Nat} (h : k ≤ 1000000) : (Lit.int .i64 (k : Int)).wf = true := i64_wf (by omega) (by omega)

def DelOwn (base : Nat) (ys : List Cl) (w : World) (e : Ending) (w' : World) : Prop :=
  ∃ A' c', e = .returned (.slice A' ys.length c') ∧ SlC w' w'.heap.size A' ys.length ys ∧ (∀ ad, A' = some ad → base ≤ ad.block ∧ ad.block < w'.heap.size) ∧ Below base w w'
theorem delete_own {base n c : Nat} {A : Option Addr} {a1 a2 a3 : Value} {pr : Cl → Bool} {xs : List Cl} {w : World} (hown : OwC w base (.slice A n c) n xs) (hb : base ≤ w.heap.size) (hn : n ≤ 100000) (hp : ∀ g, base ≤ g → PredC w g a1 a2 a3 pr xs) :
    Calls Try.prog 53 #[.slice A n c, .func (.func 55) #[] #[a1, a2, a3]] w (DelOwn base (keepC pr xs) w) := by
  rcases Nat.eq_zero_or_pos n with h | h
  · subst h
    have hx : xs = [] := List.eq_nil_of_length_eq_zero hown.len
    subst hx
    refine (delete_none A c a1 a2 a3 w).mono ?_
    rintro e w' ⟨rfl, hb1⟩
    refine ⟨A, c, rfl, ⟨rfl, fun h => absurd h (by show ¬ 0 < 0; omega)⟩, fun ad e => ?_, hb1.mono hb⟩
    subst e
    have := World.ownsRow.lt hown ad.block rfl
    exact ⟨this.1, Nat.lt_of_lt_of_le this.2 hb1.size⟩
  · obtain ⟨g, cap, hv, hg, hlt⟩ := World.ownsRow.form hown h
    injection hv with e1 e2 e3
    subst e1 e3
    refine (delete_any n c g a1 a2 a3 pr xs w hown.toRow hown.len hn (hp g hg)).mono ?_
    rintro e w' ⟨rfl, hr, hgr⟩
    refine ⟨_, _, rfl, hr.slc, fun ad e => ?_, ?_⟩
    · injection e with e
      subst e
      exact ⟨hg, hr.lt⟩
    · exact (Below.refl base w).grown hgr hb (fun k e => by injection e with e; omega)
theorem predC_at {w : World} {g B3 B5 B11 m nn : Nat} {time i : Int} {f : Int → Int → Bool} {xs : List Cl}
    (h3 : w.cell? ⟨B3, 0, none⟩ = some (.int .i64 time)) (h5 : w.cell? ⟨B5, 0, none⟩ = some (.map (some m))) (h11 : w.cell? ⟨B11, 0, none⟩ = some (.int .i64 i)) (hm : BMap2 w m nn f)
    (n3 : B3 ≠ g) (n5 : B5 ≠ g) (n11 : B11 ≠ g) (nm : m ≠ g) (hi : (Lit.int .i64 i).wf = true) (hs : ∀ c ∈ xs, (Lit.int .i64 c.seq).wf = true) :
    PredC w g (.pointer (some ⟨B3, 0, none⟩)) (.pointer (some ⟨B5, 0, none⟩)) (.pointer (some ⟨B11, 0, none⟩)) (delB time f i) xs :=
  fun W hW c hc => at1_any B3 B5 B11 m nn time i f c W (hW.cell h3 (some_ne n3)) (hW.cell h5 (some_ne n5)) (hW.cell h11 (some_ne n11)) (hm.kept hW (some_ne nm)) hi (hs c hc)

/-- A slice of slices of claims of the call's own. -/
def OwS (w : World) (base : Nat) (v : Value) (n : Nat) (xss : List (List Cl)) : Prop :=
  ∃ vals : List Value, w.ownsRow base 33 1 v n vals ∧ xss.length = n ∧ ∀ (k : Nat) (xs : List Cl), xss[k]? = some xs → ∃ (A' : Option Addr) (c' : Nat), vals[k]? = some (Value.slice A' xs.length c') ∧ SlC w w.heap.size A' xs.length xs ∧ ∀ ad, A' = some ad → ad.block < w.heap.size ∧ v.ownBlock ≠ some ad.block
theorem OwS.nil (w : World) (base : Nat) : OwS w base (.slice none 0 0) 0 [] := ⟨[], World.ownsRow_nil w base 33 1, rfl, fun k xs h => by simp at h⟩
theorem SlC.keepAt {w w' : World} {B B' n : Nat} {A : Option Addr} {xs : List Cl} (h : SlC w B A n xs) (hk : ∀ ad, A = some ad → ∀ o, w'.cell? ⟨ad.block, o, none⟩ = w.cell? ⟨ad.block, o, none⟩) (hB : B ≤ B') : SlC w' B' A n xs :=
  ⟨h.1, fun hn => by
    obtain ⟨b, off, e, hb, hc⟩ := h.2 hn
    exact ⟨b, off, e, by omega, fun k c hu => (hc k c hu).keep fun o => hk _ e o⟩⟩
theorem OwS.below {w w' : World} {base n : Nat} {v : Value} {xss : List (List Cl)} (h : OwS w base v n xss) (hb : Below w.heap.size w w') : OwS w' base v n xss := by
  obtain ⟨vals, h1, h2, h3⟩ := h
  refine ⟨vals, h1.kept (below_grown hb (Nat.le_refl _)) ?_, h2, fun k xs hk => ?_⟩
  · cases hv : v.ownBlock with
    | none => exact .inl rfl
    | some g => exact .inr (by simp)
  · obtain ⟨A', c', k1, k2, k3⟩ := h3 k xs hk
    exact ⟨A', c', k1, (k2.below hb).more hb.size, fun ad e => ⟨Nat.lt_of_lt_of_le (k3 ad e).1 hb.size, (k3 ad e).2⟩⟩
theorem OwS.slS {w : World} {base n c : Nat} {A : Option Addr} {xss : List (List Cl)} (h : OwS w base (.slice A n c) n xss) : SlS w w.heap.size A n xss := by
  obtain ⟨vals, h1, h2, h3⟩ := h
  refine ⟨h2, fun hn => ?_⟩
  obtain ⟨g, cap, hv, _, hlt⟩ := World.ownsRow.form h1 hn
  have hA : A = some ⟨g, 0, none⟩ := by injection hv
  subst hA
  refine ⟨g, 0, rfl, hlt, fun k xs hk => ?_⟩
  obtain ⟨A', c', k1, k2, _⟩ := h3 k xs hk
  have := World.ownsRow.cells h1 (g := g) rfl k _ k1
  rw [add_at] at this
  exact ⟨A', c', this, k2⟩
theorem Sl.info : (Try.prog.info? 33).map (fun i => (i.zero, i.size, i.bytes)) = some (some (.slice none 0 0), 1, 24) := by kernel_rfl
theorem run_appS {w : World} {base n blk : Nat} {v : Value} {xss : List (List Cl)} {xs : List Cl} {A' : Option Addr} {c' : Nat} (hown : OwS w base v n xss) (hc : w.cell? ⟨blk, 0, none⟩ = some (.slice A' xs.length c'))
    (hs : SlC w w.heap.size A' xs.length xs) (hf : ∀ ad, A' = some ad → ad.block < w.heap.size ∧ v.ownBlock ≠ some ad.block) (ty : TypeId) (hn : n ≤ 100000) (hbase : base ≤ w.heap.size) :
    ∃ A'' c'' w', (Builtin.append_ #[31, 31] ty #[v, .slice (some ⟨blk, 0, none⟩) 1 1]).run Try.prog w = .ok (.slice A'' (n + 1) c'') w' ∧ OwS w' base (.slice A'' (n + 1) c'') (n + 1) (xss ++ [xs]) ∧ w.grownBy w' v.ownBlock := by
  obtain ⟨i, hi, hz0, hz1, hz2⟩ := info_parts Sl.info
  obtain ⟨vals, h1, h2, h3⟩ := hown
  have hvl : vals.length = n := by have := h1.1; omega
  obtain ⟨v', w', hrun, k2, k3, _, k5⟩ := run_append_own_at (P := Try.prog) w base 31 ty 33 i _ 1 24 Try.underlying31 hi hz0 hz1 hz2 rfl (by omega) v n vals h1 ⟨blk, 0, none⟩ 1 1 [.slice A' xs.length c'] rfl
    (fun j u hu => by
      rcases j with _ | j
      · simp only [List.getElem?_cons_zero, Option.some.injEq] at hu
        subst hu
        rw [add_at]; exact hc
      · simp at hu) (by simp [Value.oneCell']) (by simp only [maxLen]; omega) (by omega) hbase
  obtain ⟨g, cap, rfl, _, hlt⟩ := World.ownsRow.form k2 (by omega)
  have hnew : ∀ ad : Addr, ad.block < w.heap.size → v.ownBlock ≠ some ad.block → ad.block < w'.heap.size ∧ (Value.slice (some ⟨g, 0, none⟩) (n + 1) cap).ownBlock ≠ some ad.block := by
    intro ad had hne
    refine ⟨Nat.lt_of_lt_of_le had k3.size, ?_⟩
    rcases k5 with k5 | k5
    · rw [k5]; exact hne
    · rw [k5]; exact some_ne (by omega)
  have hold : ∀ ad : Addr, ad.block < w.heap.size → v.ownBlock ≠ some ad.block → ∀ o, w'.cell? ⟨ad.block, o, none⟩ = w.cell? ⟨ad.block, o, none⟩ :=
    fun ad had hne o => k3.cell_far ⟨ad.block, o, none⟩ had (fun e => hne e.symm)
  refine ⟨_, _, w', hrun, ⟨_, k2, by rw [List.length_append, h2]; rfl, fun k ys hk => ?_⟩, k3⟩
  by_cases hkn : k < n
  · rw [List.getElem?_append_left (by omega)] at hk
    obtain ⟨A1, c1, q1, q2, q3⟩ := h3 k ys hk
    exact ⟨A1, c1, by rw [List.getElem?_append_left (by omega)]; exact q1, q2.keepAt (fun ad e => hold ad (q3 ad e).1 (q3 ad e).2) k3.size, fun ad e => hnew ad (q3 ad e).1 (q3 ad e).2⟩
  · rw [List.getElem?_append_right (by omega), h2] at hk
    have hk0 : k - n = 0 := by
      have := (List.getElem?_eq_some_iff.1 hk).1
      simp at this; omega
    rw [hk0] at hk
    simp only [List.getElem?_cons_zero, Option.some.injEq] at hk
    subst hk
    exact ⟨A', c', by rw [List.getElem?_append_right (by omega), hvl, hk0]; rfl, hs.keepAt (fun ad e => hold ad (hf ad e).1 (hf ad e).2) k3.size, fun ad e => hnew ad (hf ad e).1 (hf ad e).2⟩
theorem wpList_appS {w : World} {ops : Array Oper} {rest : List Oper} {o : Oper} {a : Act} {Q : Exit → Act → World → Prop} (hgd : o.guard = none) (s x : Operand)
    (ho : o.op = .call { callee := .builtin .append, args := #[s, x], argTypes := #[31, 31] })
    (v : Value) (hsv : a.eval s = v) (blk : Nat) (hx : a.eval x = .slice (some ⟨blk, 0, none⟩) 1 1)
    (base n : Nat) (xss : List (List Cl)) (xs : List Cl) (A' : Option Addr) (c' : Nat) (hown : OwS w base v n xss) (hc : w.cell? ⟨blk, 0, none⟩ = some (.slice A' xs.length c'))
    (hs : SlC w w.heap.size A' xs.length xs) (hf : ∀ ad, A' = some ad → ad.block < w.heap.size ∧ v.ownBlock ≠ some ad.block) (hn : n ≤ 100000) (hbase : base ≤ w.heap.size)
    (h : ∀ A'' c'' w', OwS w' base (.slice A'' (n + 1) c'') (n + 1) (xss ++ [xs]) → w.grownBy w' v.ownBlock → wpList Try.prog ops Q rest (a.put o.dst (.slice A'' (n + 1) c'')) w') :
    wpList Try.prog ops Q (o :: rest) a w :=
  wpList_plain hgd fun _ hK => by
    obtain ⟨A'', c'', w', hrun, h2, h3⟩ := run_appS (xs := xs) hown hc hs hf o.type hn hbase
    unfold Oper.wp execOp
    simp only [ho, resolve, invoke, builtin, Sem.run_bind, Sem.run_pure, Result.andThen_ok, List.map_toArray, List.map_cons, List.map_nil, hsv, hx, hrun]
    exact hK _ _ (h A'' c'' w' h2 h3)
theorem OwS.row {w : World} {base n : Nat} {v : Value} {xss : List (List Cl)} (h : OwS w base v n xss) : ∀ k, v.ownBlock = some k → base ≤ k ∧ k < w.heap.size := by
  obtain ⟨vals, h1, _⟩ := h
  exact World.ownsRow.lt h1

def forcedL (xss : List (List Cl)) (time : Int) (k : Nat) : List (List Cl) := (List.range k).map fun q : Nat => keepC (delB time (gF xss time xss.length 0) ((q : Nat) : Int)) (xss[q]?.getD [])

theorem OwC.less {w : World} {base base' n : Nat} {v : Value} {xs : List Cl} (h : OwC w base v n xs) (hb : base' ≤ base) : OwC w base' v n xs := by
  refine ⟨h.1, ?_⟩
  rcases h.2 with h2 | ⟨g, cap, cur, hv, hg, r⟩
  · exact .inl h2
  · exact .inr ⟨g, cap, cur, hv, Nat.le_trans hb hg, r⟩
theorem forcedL_snoc {xss : List (List Cl)} {time : Int} {q n : Nat} {xs : List Cl} (hx : xss[q]? = some xs) (hl : xss.length = n) : forcedL xss time (q + 1) = forcedL xss time q ++ [keepC (delB time (gF xss time n 0) (q : Int)) xs] := by
  rw [forcedL, List.range_succ, List.map_append, forcedL, ← hl]
  simp [hx]

set_option maxRecDepth 100000 in
set_option maxHeartbeats 2000000 in
theorem at_small (A : Option Addr) (n cap : Nat) (time : Int) (xss : List (List Cl)) (w : World) (ha : SlS w w.heap.size A n xss) (hn : n ≤ 100) (hwf : ∀ xs ∈ xss, ∀ c ∈ xs, wfC c) (hlen : ∀ xs ∈ xss, xs.length ≤ 1000)
    (tot : Nat) (ht : (forcedL xss time n).flatten.length = tot) (htot : tot < 20) :
    Calls Try.prog 30 #[.slice A n cap, .int .i64 time] w (OwnPost w.heap.size w tot (insF (forcedL xss time n).flatten)) := by
  have Ha := hide ha; clear ha
  have Hwf := hide hwf; clear hwf
  have Hlen := hide hlen; clear hlen
  have Ht := hide ht; clear ht
  have hmm := @run_makeMap Try.prog
  go_enter Try.func30, Try.ntmps30
  go_wp2
  go_loopg [16] n (fun gk i wr => ∃ k : Nat, k + gk = n ∧ i = .int .i64 k ∧ (∃ cnt, cnt ≤ k * 1000 ∧ BMap2 wr (w.heap.size + 1) cnt (gF xss time k 0)) ∧ wr.cell? ⟨w.heap.size, 0, none⟩ = some (.int .i64 time) ∧ wr.cell? ⟨w.heap.size + 1 + 1, 0, none⟩ = some (.map (some (w.heap.size + 1))) ∧ w.heap.size + 1 + 1 < wr.heap.size ∧ Below w.heap.size w wr)
  case atStart =>
    refine ⟨0, by omega, rfl, ⟨0, by omega, ?_⟩, ?_, ?_, by simp, (((Below.refl _ _).alloc (Nat.le_refl _) _).alloc (by simp) _).alloc (by simp; omega) _⟩
    · rw [gF_start]
      have h := BMap2.made (w.alloc (.cells #[.int .i64 time] 3))
      rw [World.size_alloc] at h
      exact h.alloc _
    · go_simp
    · go_simp
  case round =>
    obtain ⟨k, hk, rfl, hmap, h3, h5, hz, hbl⟩ := hrel
    have Hk := hide hk; clear hk
    have Hmap := hide hmap; clear hmap
    have Hbl := hide hbl; clear hbl
    by_cases hlt : k < n
    · obtain ⟨b, off, xs, A', c', rfl, hb, hx, hcell, hs⟩ := Ha.out.at_ hlt
      have hxl : xs.length ≤ 1000 := Hlen.out xs (List.mem_of_getElem? hx)
      rw [← Hbl.out.cell (p := ⟨b, off + k, none⟩) hb] at hcell
      have Hs := hide hs; clear hs
      have Hx := hide hx; clear hx
      clear hb
      obtain ⟨N, hN⟩ : ∃ N, xs.length = N := ⟨_, rfl⟩
      rw [hN] at hcell hxl Hs
      have HN := hide hN; clear hN
      go_wp2
      clear hcell
      go_loopg [23] N (fun gj i wi => ∃ j : Nat, j + gj = N ∧ i = .int .i64 j ∧ (∃ cnt, cnt ≤ k * 1000 + j ∧ BMap2 wi (w.heap.size + 1) cnt (gF xss time k j)) ∧ wi.cell? ⟨w.heap.size, 0, none⟩ = some (.int .i64 time) ∧ wi.cell? ⟨w.heap.size + 1 + 1, 0, none⟩ = some (.map (some (w.heap.size + 1))) ∧ w.heap.size + 1 + 1 < wi.heap.size ∧ Below w.heap.size w wi)
      case atStart => exact ⟨0, by omega, rfl, by simpa using Hmap.out, h3, h5, hz, Hbl.out⟩
      case round =>
        clear h3 h5 hz
        obtain ⟨j, hj, rfl, hmapj, h3, h5, hz, hblj⟩ := hrel
        have Hj := hide hj; clear hj
        have Hmapj := hide hmapj; clear hmapj
        have Hblj := hide hblj; clear hblj
        by_cases hlt2 : j < N
        · obtain ⟨b', off', d, rfl, hb', hd, hcl⟩ := Hs.out.at_ hlt2
          obtain ⟨g0, g1, g2, g3, g4, g5, g6, g7, g8⟩ := hcl.keep (w' := wr) (fun o => Hblj.out.cell (p := ⟨b', o, none⟩) hb')
          have Hd := hide hd; clear hd
          clear hcl hb'
          have hz0 : w.heap.size < wr.heap.size := by omega
          have hz1 : w.heap.size + 1 < wr.heap.size := by omega
          rcases Bool.eq_false_or_eq_true (d.kind == 4 && decide (d.time ≤ time)) with hm | hm
          · have hm1 : (d.kind == 4) = true := (Bool.and_eq_true _ _ ▸ hm).1
            have hm2 : d.time ≤ time := by have := (Bool.and_eq_true _ _ ▸ hm).2; simpa using this
            have Hm := hide hm; clear hm
            obtain ⟨cnt, hcnt, hbm⟩ := Hmapj.out
            have Hbm := hide (hbm.alloc (.cells (#[.int .i64 d.firm, .int .i64 d.seq, .int .i64 d.time, .int .i64 d.kind, .int .i64 d.a, .int .u64 d.ref, .int .u64 d.aux, .int .u64 d.prev, .int .u64 d.tag]) 29)); clear hbm
            have Hw1 := hide (nat_wf (k := k) (by omega))
            have Hw2 := hide (Hwf.out xs (List.mem_of_getElem? Hx.out) d (List.mem_of_getElem? Hd.out)).2
            go_wp2_with (at_mapUpdate; refine wpList_mapUpd2 rfl (.tmp 36) (.tmp 40) (.const (.bool true)) rfl (w.heap.size + 1) cnt (gF xss time k j) k d.a true rfl rfl rfl Hbm.out (by omega) Hw1.out Hw2.out ?_; intro w6 hm6 hg6; have Hm6 := hide hm6; clear hm6; have Hg6 := hide hg6; clear hg6)
            go_roundg (N - (j + 1))
            case measure => have := Hj.out; omega
            case rel =>
              have hzz : w.heap.size + 1 + 1 < (wr.alloc (.cells (#[.int .i64 d.firm, .int .i64 d.seq, .int .i64 d.time, .int .i64 d.kind, .int .i64 d.a, .int .u64 d.ref, .int .u64 d.aux, .int .u64 d.prev, .int .u64 d.tag]) 29)).heap.size := by simp; omega
              refine ⟨j + 1, by omega, by go_num, ⟨cnt + 1, by omega, ?_⟩, ?_, ?_, Nat.lt_of_lt_of_le hzz Hg6.out.size, ?_⟩
              · have h := Hm6.out
                rw [gF_hit Hx.out Hd.out Hm.out] at h
                exact h
              · rw [Hg6.out.cell_far ⟨w.heap.size, 0, none⟩ (by show w.heap.size < _; omega) (some_ne (a := w.heap.size) (by omega))]
                exact (World.cell?_alloc_lt wr _ _ hz0).trans h3
              · rw [Hg6.out.cell_far ⟨w.heap.size + 1 + 1, 0, none⟩ hzz (some_ne (a := w.heap.size + 1 + 1) (by omega))]
                exact (World.cell?_alloc_lt wr _ _ hz).trans h5
              · exact (Hblj.out.alloc Hblj.out.size _).grown Hg6.out (by have := Hblj.out.size; simp; omega) (fun k e => by injection e with e; omega)
          · have Hm := hide hm
            obtain ⟨cnt, hcnt, hbm⟩ := Hmapj.out
            have Hbm := hide (hbm.alloc (.cells (#[.int .i64 d.firm, .int .i64 d.seq, .int .i64 d.time, .int .i64 d.kind, .int .i64 d.a, .int .u64 d.ref, .int .u64 d.aux, .int .u64 d.prev, .int .u64 d.tag]) 29)); clear hbm
            rcases Bool.eq_false_or_eq_true (d.kind == 4) with hm1 | hm1
            · have hm2 : ¬ d.time ≤ time := by
                intro h
                rw [hm1, decide_eq_true h] at hm
                cases hm
              clear hm
              go_wp2
              go_roundg (N - (j + 1))
              case measure => have := Hj.out; omega
              case rel => exact ⟨j + 1, by omega, by go_num, ⟨cnt, by omega, by rw [gF_skip Hx.out Hd.out Hm.out]; exact Hbm.out⟩, (World.cell?_alloc_lt wr _ _ hz0).trans h3, (World.cell?_alloc_lt wr _ _ hz).trans h5, by simp; omega, Hblj.out.alloc Hblj.out.size _⟩
            · clear hm
              go_wp2
              go_roundg (N - (j + 1))
              case measure => have := Hj.out; omega
              case rel => exact ⟨j + 1, by omega, by go_num, ⟨cnt, by omega, by rw [gF_skip Hx.out Hd.out Hm.out]; exact Hbm.out⟩, (World.cell?_alloc_lt wr _ _ hz0).trans h3, (World.cell?_alloc_lt wr _ _ hz).trans h5, by simp; omega, Hblj.out.alloc Hblj.out.size _⟩
        · have hjN : j = N := by have := Hj.out; omega
          have HjN := hide hjN; clear hjN
          obtain ⟨cnt, hcnt, hbm⟩ := Hmapj.out
          have Hbm := hide hbm; clear hbm
          go_wp2
          go_roundg (n - (k + 1))
          case measure => have := Hk.out; omega
          case rel => exact ⟨k + 1, by omega, by go_num, ⟨cnt, by have := HjN.out; omega, by rw [← gF_next Hx.out, HN.out, ← HjN.out]; exact Hbm.out⟩, h3, h5, hz, Hblj.out⟩
    · have hkn : k = n := by have := Hk.out; omega
      subst hkn
      obtain ⟨cnt, hcnt, hbm⟩ := Hmap.out
      have Hbm := hide hbm; clear hbm
      have hxl := Ha.out.1
      have Hxl := hide hxl; clear hxl
      obtain ⟨wo, rfl⟩ : ∃ wo : World, wo = wr := ⟨_, rfl⟩
      have how : w.heap.size ≤ wo.heap.size := Hbl.out.size
      go_wp2
      go_loopg [10, 45] k (fun gk v i wi => ∃ (q : Nat) (Ao : Option Addr) (co : Nat), q + gk = k ∧ i = .int .i64 q ∧ v = .slice Ao q co ∧ OwS wi wo.heap.size (.slice Ao q co) q (forcedL xss time q) ∧ BMap2 wi (w.heap.size + 1) cnt (gF xss time k 0) ∧ wi.cell? ⟨w.heap.size, 0, none⟩ = some (.int .i64 time) ∧ wi.cell? ⟨w.heap.size + 1 + 1, 0, none⟩ = some (.map (some (w.heap.size + 1))) ∧ wo.heap.size ≤ wi.heap.size ∧ Below w.heap.size w wi)
      case atStart => exact ⟨0, none, 0, by omega, rfl, rfl, OwS.nil _ _, Hbm.out, h3, h5, Nat.le_refl _, Hbl.out⟩
      case round =>
        clear h3 h5
        have Hz := hide hz; clear hz
        obtain ⟨q, Ao, co, hq, rfl, rfl, hos, hbm, h3, h5, hws, hblq⟩ := hrel
        have Hq := hide hq; clear hq
        have Hos := hide hos; clear hos
        have Hbmq := hide hbm; clear hbm
        have Hblq := hide hblq; clear hblq
        by_cases hlt3 : q < k
        · obtain ⟨b, off, xs, A', c', rfl, hb, hx, hcell, hs⟩ := Ha.out.at_ hlt3
          have hxs : ∀ c ∈ xs, (Lit.int .i64 c.seq).wf = true := fun c hc => (Hwf.out xs (List.mem_of_getElem? hx) c hc).1
          have Hxs := hide hxs; clear hxs
          have hxl : xs.length ≤ 1000 := Hlen.out xs (List.mem_of_getElem? hx)
          rw [← Hblq.out.cell (p := ⟨b, off + q, none⟩) hb] at hcell
          have Hs := hide ((hs.below Hblq.out).more Hblq.out.size); clear hs
          have Hx := hide hx; clear hx
          clear hb
          obtain ⟨N, hN⟩ : ∃ N, xs.length = N := ⟨_, rfl⟩
          rw [hN] at hcell hxl Hs
          have HN := hide hN; clear hN
          have hz0 : w.heap.size < wr.heap.size := by have := Hz.out; omega
          have hz1 : w.heap.size + 1 < wr.heap.size := by have := Hz.out; omega
          have hz2 : w.heap.size + 1 + 1 < wr.heap.size := by have := Hz.out; omega
          go_wp2_with fail
          refine (clone_any A' N c' xs _ ((Hs.out.alloc (Nat.le_refl _) _).more (by simp)) (by omega)).mono ?_
          rintro e w2 ⟨A2, c2, rfl, ho2, hb2⟩
          have hc2 := fun (b o : Nat) (hb : b < wr.heap.size + 1) => hb2.cell (p := ⟨b, o, none⟩) (by simpa using hb)
          have p3 : w2.cell? ⟨w.heap.size, 0, none⟩ = some (.int .i64 time) := (hc2 _ 0 (by omega)).trans ((World.cell?_alloc_lt wr _ _ hz0).trans h3)
          have p5 : w2.cell? ⟨w.heap.size + 1 + 1, 0, none⟩ = some (.map (some (w.heap.size + 1))) := (hc2 _ 0 (by omega)).trans ((World.cell?_alloc_lt wr _ _ hz2).trans h5)
          have p11 : w2.cell? ⟨wr.heap.size, 0, none⟩ = some (.int .i64 (q : Int)) := (hc2 _ 0 (by omega)).trans (by rw [World.cell?_alloc_new]; rfl)
          have pm : BMap2 w2 (w.heap.size + 1) cnt (gF xss time k 0) := (Hbmq.out.alloc _).below hb2
          have hb12 : Below wr.heap.size wr w2 := ((Below.refl _ wr).alloc (Nat.le_refl _) _).trans (hb2.mono (by simp))
          have hdel := delete_own (a1 := .pointer (some ⟨w.heap.size, 0, none⟩)) (a2 := .pointer (some ⟨w.heap.size + 1 + 1, 0, none⟩)) (a3 := .pointer (some ⟨wr.heap.size, 0, none⟩)) (pr := delB time (gF xss time k 0) (q : Int)) ho2 hb2.size (by omega)
            (fun g hg => predC_at p3 p5 p11 pm (by simp at hg; omega) (by simp at hg; omega) (by simp at hg; omega) (by simp at hg; omega) (nat_wf (by omega)) Hxs.out)
          have Hdel := hide hdel; clear hdel hc2
          clear p3 p5 p11 ho2 hb2
          have Hpm := hide pm; clear pm
          have Hb12 := hide hb12; clear hb12
          go_wp2_with fail
          refine Hdel.out.mono ?_
          clear Hdel
          generalize hys : keepC (delB time (gF xss time k 0) (q : Int)) xs = ys
          have Hys := hide hys; clear hys
          rintro e w3 ⟨A3, c3, rfl, hs3, hf3, hb3⟩
          have hb13 : Below wr.heap.size wr w3 := Hb12.out.trans (hb3.mono (by simp))
          have os4 := (Hos.out.below hb13).below ((Below.refl _ w3).alloc (Nat.le_refl _) (.cells #[.slice A3 ys.length c3] 33))
          have hc4 : (w3.alloc (.cells #[.slice A3 ys.length c3] 33)).cell? ⟨w3.heap.size, 0, none⟩ = some (.slice A3 ys.length c3) := by rw [World.cell?_alloc_new]; rfl
          have hs4 : SlC (w3.alloc (.cells #[.slice A3 ys.length c3] 33)) (w3.alloc (.cells #[.slice A3 ys.length c3] 33)).heap.size A3 ys.length ys := (hs3.alloc (Nat.le_refl _) _).more (by simp)
          have hf4 : ∀ ad, A3 = some ad → ad.block < (w3.alloc (.cells #[.slice A3 ys.length c3] 33)).heap.size ∧ (Value.slice Ao q co).ownBlock ≠ some ad.block := fun ad e => by
            have h1 := hf3 ad e
            refine ⟨by simp; omega, fun e2 => ?_⟩
            have h2 := (Hos.out.row _ e2).2
            simp at h1
            omega
          have Os4 := hide os4; clear os4
          have Hc4 := hide hc4; clear hc4
          have Hs4 := hide hs4; clear hs4
          have Hf4 := hide hf4; clear hf4
          have Hb13 := hide hb13; clear hb13
          clear hs3 hf3 hb3
          go_wp2_with (at_builtin; refine wpList_appS rfl (.tmp 50) (.tmp 55) rfl (.slice Ao q co) rfl w3.heap.size rfl wo.heap.size q (forcedL xss time q) ys A3 c3 Os4.out Hc4.out Hs4.out Hf4.out (by omega) (by have := Hb13.out.size; simp; omega) ?_; intro A5 c5 w5 ho5 hg5; have Ho5 := hide ho5; clear ho5; have Hg5 := hide hg5; clear hg5)
          go_roundg (k - (q + 1))
          case measure => have := Hq.out; omega
          case rel =>
            have hb4 : Below wr.heap.size wr (w3.alloc (.cells #[.slice A3 ys.length c3] 33)) := Hb13.out.alloc Hb13.out.size _
            have hrow := fun b e => (Hos.out.row b e).1
            have hne : ∀ b, b < wo.heap.size → some b ≠ (Value.slice Ao q co).ownBlock := fun b hb e => by have := hrow b e.symm; omega
            refine ⟨q + 1, A5, c5, by omega, by go_num, rfl, ?_, ?_, ?_, ?_, ?_, ?_⟩
            · rw [forcedL_snoc Hx.out Hxl.out, Hys.out]; exact Ho5.out
            · exact ((Hbmq.out).below hb4).kept Hg5.out (hne _ (by have := Hz.out; omega))
            · rw [Hg5.out.cell_far ⟨w.heap.size, 0, none⟩ (by have := hb4.size; show w.heap.size < _; omega) (hne _ (by have := Hz.out; show w.heap.size < _; omega)), hb4.cell (p := ⟨w.heap.size, 0, none⟩) hz0]
              exact h3
            · rw [Hg5.out.cell_far ⟨w.heap.size + 1 + 1, 0, none⟩ (by have := hb4.size; show w.heap.size + 1 + 1 < _; omega) (hne _ Hz.out), hb4.cell (p := ⟨w.heap.size + 1 + 1, 0, none⟩) hz2]
              exact h5
            · have := hb4.size; have := Hg5.out.size; omega
            · exact (Hblq.out.trans (hb4.mono Hblq.out.size)).grown Hg5.out (by have := hb4.size; omega) (fun b e => by have := hrow b e; omega)
        · have hqk : q = k := by have := Hq.out; omega
          subst hqk
          have Hord := hide (order_small Ao q co (forcedL xss time q) wr Hos.out.slS (by omega) tot Ht.out htot)
          go_wp2_with fail
          refine Hord.out.mono ?_
          clear Hord
          rintro e w7 ⟨A7, c7, rfl, ho7, hb7⟩
          have Ho7 := hide (ho7.less Hblq.out.size); clear ho7
          have Hb7 := hide (Hblq.out.trans (hb7.mono Hblq.out.size)); clear hb7
          go_wp2
          go_ret
          exact ⟨A7, c7, rfl, Ho7.out, Hb7.out⟩
end Go.Proofs.Ythpbjceajnaokaa
