/- Latest: the last claim in force about something. Condition: what At answers. -/
import Derived.Test.YthpbjceajnaokaaBack
namespace Go.Proofs.Ythpbjceajnaokaa
open Go.RowKit Go.Shelf
attribute [local go_sem] Oper.semAt_some

def aboutC (firm kind a : Int) (c : Cl) : Bool := decide (c.firm = firm) && decide (c.kind = kind) && decide (c.a = a)
def latestF (firm kind a : Int) (xs : List Cl) : Option Cl := xs.reverse.find? (aboutC firm kind a)
theorem back_snd (n : Nat) (xs : List Cl) (hn : xs.length = n) : ∀ k, k ≤ n → (backL n xs k).map (·.2) = xs.reverse.take k := by
  intro k
  induction k with
  | zero => intro _; simp [backL]
  | succ k ih =>
    intro hk
    rw [backL_succ, List.map_append, ih (by omega), List.take_add_one]
    congr 1
    rw [List.getElem?_reverse (by omega)]
    have h1 : xs.length - 1 - k < xs.length := by omega
    simp [backF, ← hn, List.getElem?_eq_getElem h1]
theorem latest_none {n : Nat} {firm kind a : Int} {xs : List Cl} (hn : xs.length = n) (h : ∀ p ∈ backL n xs n, aboutC firm kind a p.2 = false) : latestF firm kind a xs = none := by
  rw [latestF, List.find?_eq_none]
  intro c hc
  have h2 := back_snd n xs hn n (Nat.le_refl _)
  rw [List.take_of_length_le (by simp [hn])] at h2
  rw [← h2, List.mem_map] at hc
  obtain ⟨p, hp, rfl⟩ := hc
  simp [h p hp]
theorem latest_some {n k : Nat} {firm kind a : Int} {xs : List Cl} {ini : List (Int × Cl)} {last : Int × Cl} (hn : xs.length = n) (hk : k ≤ n) (he : backL n xs k = ini ++ [last]) (h : ∀ p ∈ ini, aboutC firm kind a p.2 = false)
    (hl : aboutC firm kind a last.2 = true) : latestF firm kind a xs = some last.2 := by
  have h2 := back_snd n xs hn k hk
  rw [latestF, ← List.take_append_drop k xs.reverse, ← h2, he]
  simp only [List.map_append, List.map_cons, List.map_nil, List.find?_append]
  rw [List.find?_eq_none.2 (by
    intro c hc
    rw [List.mem_map] at hc
    obtain ⟨p, hp, rfl⟩ := hc
    simp [h p hp])]
  simp [hl]

def LatPost (firm kind a : Int) (xs : List Cl) (w : World) (e : Ending) (w' : World) : Prop :=
  e = .returned (.tuple #[.agg #[.int .i64 ((latestF firm kind a xs).getD zeroC).firm, .int .i64 ((latestF firm kind a xs).getD zeroC).seq, .int .i64 ((latestF firm kind a xs).getD zeroC).time, .int .i64 ((latestF firm kind a xs).getD zeroC).kind, .int .i64 ((latestF firm kind a xs).getD zeroC).a, .int .u64 ((latestF firm kind a xs).getD zeroC).ref, .int .u64 ((latestF firm kind a xs).getD zeroC).aux, .int .u64 ((latestF firm kind a xs).getD zeroC).prev, .int .u64 ((latestF firm kind a xs).getD zeroC).tag], .bool (latestF firm kind a xs).isSome]) ∧ Below w.heap.size w w'

theorem isCl_kept {W W' : World} {row : Option Nat} {b o : Nat} {c : Cl} (h : IsCl W b o c) (hg : W.grownBy W' row) (hr : ∀ r, row = some r → ∃ o : Obj, W.heap[r]? = some o ∧ o.isCells = false) : IsCl W' b o c := by
  obtain ⟨h0, h1, h2, h3, h4, h5, h6, h7, h8⟩ := h
  exact ⟨cell_kept h0 hg hr, cell_kept h1 hg hr, cell_kept h2 hg hr, cell_kept h3 hg hr, cell_kept h4 hg hr, cell_kept h5 hg hr, cell_kept h6 hg hr, cell_kept h7 hg hr, cell_kept h8 hg hr⟩

def LatQ (w w2 : World) (firm kind a : Int) : Prop :=
  w2.cell? ⟨w.heap.size, 0, none⟩ = some (.int .i64 firm) ∧ w2.cell? ⟨w.heap.size + 1, 0, none⟩ = some (.int .i64 kind) ∧ w2.cell? ⟨w.heap.size + 1 + 1, 0, none⟩ = some (.int .i64 a) ∧
  w2.cell? ⟨w.heap.size + 1 + 1 + 1 + 1, 0, none⟩ = some (.bool false) ∧ (∀ o, w2.frozen? ⟨w.heap.size + 1 + 1 + 1 + 1, o, none⟩ = false) ∧
  IsCl w2 (w.heap.size + 1 + 1 + 1) 0 zeroC ∧ (∀ o, w2.frozen? ⟨w.heap.size + 1 + 1 + 1, o, none⟩ = false) ∧ w.heap.size + 5 ≤ w2.heap.size ∧ Below w.heap.size w w2
theorem alloc5 (w : World) (o1 o2 o3 o4 o5 : Obj) :
    (((((w.alloc o1).alloc o2).alloc o3).alloc o4).alloc o5).heap.size = w.heap.size + 5 ∧
    (((((w.alloc o1).alloc o2).alloc o3).alloc o4).alloc o5).heap[w.heap.size]? = some o1 ∧
    (((((w.alloc o1).alloc o2).alloc o3).alloc o4).alloc o5).heap[w.heap.size + 1]? = some o2 ∧
    (((((w.alloc o1).alloc o2).alloc o3).alloc o4).alloc o5).heap[w.heap.size + 1 + 1]? = some o3 ∧
    (((((w.alloc o1).alloc o2).alloc o3).alloc o4).alloc o5).heap[w.heap.size + 1 + 1 + 1]? = some o4 ∧
    (((((w.alloc o1).alloc o2).alloc o3).alloc o4).alloc o5).heap[w.heap.size + 1 + 1 + 1 + 1]? = some o5 ∧
    Below w.heap.size w (((((w.alloc o1).alloc o2).alloc o3).alloc o4).alloc o5) := by
  have h1 := World.size_alloc w o1
  have h2 := World.size_alloc (w.alloc o1) o2
  have h3 := World.size_alloc ((w.alloc o1).alloc o2) o3
  have h4 := World.size_alloc (((w.alloc o1).alloc o2).alloc o3) o4
  have h5 := World.size_alloc ((((w.alloc o1).alloc o2).alloc o3).alloc o4) o5
  have n1 := heap_alloc_new w o1
  have n2 := heap_alloc_new (w.alloc o1) o2
  have n3 := heap_alloc_new ((w.alloc o1).alloc o2) o3
  have n4 := heap_alloc_new (((w.alloc o1).alloc o2).alloc o3) o4
  have n5 := heap_alloc_new ((((w.alloc o1).alloc o2).alloc o3).alloc o4) o5
  rw [h1] at h2 n2
  rw [h2] at h3 n3
  rw [h3] at h4 n4
  rw [h4] at h5 n5
  have k2 : ∀ k, k < w.heap.size + 1 → ((w.alloc o1).alloc o2).heap[k]? = (w.alloc o1).heap[k]? := fun k hk => Below.heap_alloc _ _ _ (by rw [h1]; exact hk)
  have k3 : ∀ k, k < w.heap.size + 1 + 1 → (((w.alloc o1).alloc o2).alloc o3).heap[k]? = ((w.alloc o1).alloc o2).heap[k]? := fun k hk => Below.heap_alloc _ _ _ (by rw [h2]; exact hk)
  have k4 : ∀ k, k < w.heap.size + 1 + 1 + 1 → ((((w.alloc o1).alloc o2).alloc o3).alloc o4).heap[k]? = (((w.alloc o1).alloc o2).alloc o3).heap[k]? := fun k hk => Below.heap_alloc _ _ _ (by rw [h3]; exact hk)
  have k5 : ∀ k, k < w.heap.size + 1 + 1 + 1 + 1 → (((((w.alloc o1).alloc o2).alloc o3).alloc o4).alloc o5).heap[k]? = ((((w.alloc o1).alloc o2).alloc o3).alloc o4).heap[k]? := fun k hk => Below.heap_alloc _ _ _ (by rw [h4]; exact hk)
  refine ⟨h5, ?_, ?_, ?_, ?_, n5, ?_⟩
  · rw [k5 _ (by omega), k4 _ (by omega), k3 _ (by omega), k2 _ (by omega)]; exact n1
  · rw [k5 _ (by omega), k4 _ (by omega), k3 _ (by omega)]; exact n2
  · rw [k5 _ (by omega), k4 _ (by omega)]; exact n3
  · rw [k5 _ (by omega)]; exact n4
  · exact (((((Below.refl _ w).alloc (Nat.le_refl _) o1).alloc (by omega) o2).alloc (by omega) o3).alloc (by omega) o4).alloc (by omega) o5
theorem latQ_of (w w2 : World) (firm kind a : Int) (hb : Below (((((w.alloc (.cells #[.int .i64 firm] 3)).alloc (.cells #[.int .i64 kind] 3)).alloc (.cells #[.int .i64 a] 3)).alloc (.cells (#[.int .i64 zeroC.firm, .int .i64 zeroC.seq, .int .i64 zeroC.time, .int .i64 zeroC.kind, .int .i64 zeroC.a, .int .u64 zeroC.ref, .int .u64 zeroC.aux, .int .u64 zeroC.prev, .int .u64 zeroC.tag]) 29)).alloc (.cells #[.bool false] 4)).heap.size (((((w.alloc (.cells #[.int .i64 firm] 3)).alloc (.cells #[.int .i64 kind] 3)).alloc (.cells #[.int .i64 a] 3)).alloc (.cells (#[.int .i64 zeroC.firm, .int .i64 zeroC.seq, .int .i64 zeroC.time, .int .i64 zeroC.kind, .int .i64 zeroC.a, .int .u64 zeroC.ref, .int .u64 zeroC.aux, .int .u64 zeroC.prev, .int .u64 zeroC.tag]) 29)).alloc (.cells #[.bool false] 4)) w2) : LatQ w w2 firm kind a := by
  obtain ⟨s5, g0, g1, g2, g3, g4, hbw⟩ := alloc5 w (.cells #[.int .i64 firm] 3) (.cells #[.int .i64 kind] 3) (.cells #[.int .i64 a] 3) (.cells (#[.int .i64 zeroC.firm, .int .i64 zeroC.seq, .int .i64 zeroC.time, .int .i64 zeroC.kind, .int .i64 zeroC.a, .int .u64 zeroC.ref, .int .u64 zeroC.aux, .int .u64 zeroC.prev, .int .u64 zeroC.tag]) 29) (.cells #[.bool false] 4)
  rw [← hb.block _ (by omega)] at g0 g1 g2 g3 g4
  refine ⟨by simp [World.cell?, g0], by simp [World.cell?, g1], by simp [World.cell?, g2], by simp [World.cell?, g4], fun o => by simp [World.frozen?, g4], IsCl.block g3, fun o => by simp [World.frozen?, g3], by rw [← s5]; exact hb.size, ?_⟩
  exact hbw.trans (hb.mono (by omega))

theorem LatQ.below {w w2 w3 : World} {firm kind a : Int} (h : LatQ w w2 firm kind a) (hb : Below w2.heap.size w2 w3) : LatQ w w3 firm kind a := by
  obtain ⟨q7, q8, q9, q11, f11, q10, f10, hz, hbb⟩ := h
  refine ⟨(hb.cell (p := ⟨w.heap.size, 0, none⟩) (by show w.heap.size < _; omega)).trans q7, (hb.cell (p := ⟨w.heap.size + 1, 0, none⟩) (by show w.heap.size + 1 < _; omega)).trans q8,
    (hb.cell (p := ⟨w.heap.size + 1 + 1, 0, none⟩) (by show w.heap.size + 1 + 1 < _; omega)).trans q9, (hb.cell (p := ⟨w.heap.size + 1 + 1 + 1 + 1, 0, none⟩) (by show w.heap.size + 1 + 1 + 1 + 1 < _; omega)).trans q11,
    fun o => (hb.frozen (p := ⟨w.heap.size + 1 + 1 + 1 + 1, o, none⟩) (by show w.heap.size + 1 + 1 + 1 + 1 < _; omega)).trans (f11 o),
    q10.keep (fun o => hb.cell (p := ⟨w.heap.size + 1 + 1 + 1, o, none⟩) (by show w.heap.size + 1 + 1 + 1 < _; omega)),
    fun o => (hb.frozen (p := ⟨w.heap.size + 1 + 1 + 1, o, none⟩) (by show w.heap.size + 1 + 1 + 1 < _; omega)).trans (f10 o), by have := hb.size; omega, hbb.trans (hb.mono (by omega))⟩

/-- Nine stores lay a claim and leave the rest. -/
theorem set9_all (W : World) (b : Nat) (c d : Cl) (h : IsCl W b 0 d) (U : World) (hU : U = (((((((((W.setCell ⟨b, 0, none⟩ (.int .i64 c.firm)).setCell ⟨b, 0 + 1, none⟩ (.int .i64 c.seq)).setCell ⟨b, 0 + 2, none⟩ (.int .i64 c.time)).setCell ⟨b, 0 + 3, none⟩ (.int .i64 c.kind)).setCell ⟨b, 0 + 4, none⟩ (.int .i64 c.a)).setCell ⟨b, 0 + 5, none⟩ (.int .u64 c.ref)).setCell ⟨b, 0 + 6, none⟩ (.int .u64 c.aux)).setCell ⟨b, 0 + 7, none⟩ (.int .u64 c.prev)).setCell ⟨b, 0 + 8, none⟩ (.int .u64 c.tag))) :
    IsCl U b 0 c ∧ (∀ p : Addr, p.block ≠ b → U.cell? p = W.cell? p) ∧ (∀ B, B ≤ b → Below B W U) ∧ (∀ B, KeepsFrom B W U) := by
  have hne : ∀ (p : Addr) (k : Nat), p.block ≠ b → (⟨b, k, none⟩ : Addr) ≠ p := fun p k hp e => hp (by rw [← e])
  refine ⟨?_, ?_, ?_, ?_⟩
  · rw [hU]; exact IsCl.set9 h
  · intro p hp
    rw [hU, World.cell?_setCell_other (h := hne p _ hp), World.cell?_setCell_other (h := hne p _ hp), World.cell?_setCell_other (h := hne p _ hp), World.cell?_setCell_other (h := hne p _ hp), World.cell?_setCell_other (h := hne p _ hp),
      World.cell?_setCell_other (h := hne p _ hp), World.cell?_setCell_other (h := hne p _ hp), World.cell?_setCell_other (h := hne p _ hp), World.cell?_setCell_other (h := hne p _ hp)]
  · intro B hB
    rw [hU]
    exact (((((((((Below.refl _ W).setCell (p := ⟨b, 0, none⟩) hB _).setCell (p := ⟨b, 1, none⟩) hB _).setCell (p := ⟨b, 2, none⟩) hB _).setCell (p := ⟨b, 3, none⟩) hB _).setCell (p := ⟨b, 4, none⟩) hB _).setCell (p := ⟨b, 5, none⟩) hB _).setCell (p := ⟨b, 6, none⟩) hB _).setCell (p := ⟨b, 7, none⟩) hB _).setCell (p := ⟨b, 8, none⟩) hB _
  · intro B
    rw [hU]
    have t : ∀ {X Y : World} (p : Addr) (v : Value), KeepsFrom B X Y → KeepsFrom B X (Y.setCell p v) := fun p v h => h.trans ((KeepsOthers.setCell _ _ _).from _)
    exact t _ _ (t _ _ (t _ _ (t _ _ (t _ _ (t _ _ (t _ _ (t _ _ (t _ _ (KeepsFrom.refl _ _)))))))))
theorem lat_ret (W : World) (b : Nat) (c d : Cl) (x y : Bool) (h : IsCl W b 0 d) (hx : W.cell? ⟨b + 1, 0, none⟩ = some (.bool y)) (V : World)
    (hV : V = ((((((((((W.setCell ⟨b, 0, none⟩ (.int .i64 c.firm)).setCell ⟨b, 0 + 1, none⟩ (.int .i64 c.seq)).setCell ⟨b, 0 + 2, none⟩ (.int .i64 c.time)).setCell ⟨b, 0 + 3, none⟩ (.int .i64 c.kind)).setCell ⟨b, 0 + 4, none⟩ (.int .i64 c.a)).setCell ⟨b, 0 + 5, none⟩ (.int .u64 c.ref)).setCell ⟨b, 0 + 6, none⟩ (.int .u64 c.aux)).setCell ⟨b, 0 + 7, none⟩ (.int .u64 c.prev)).setCell ⟨b, 0 + 8, none⟩ (.int .u64 c.tag))).setCell ⟨b + 1, 0, none⟩ (.bool x)) :
    IsCl V b 0 c ∧ V.cell? ⟨b + 1, 0, none⟩ = some (.bool x) ∧ (∀ B, B ≤ b → Below B W V) ∧ (∀ B, KeepsFrom B W V) := by
  obtain ⟨U, hU⟩ : ∃ U, U = (((((((((W.setCell ⟨b, 0, none⟩ (.int .i64 c.firm)).setCell ⟨b, 0 + 1, none⟩ (.int .i64 c.seq)).setCell ⟨b, 0 + 2, none⟩ (.int .i64 c.time)).setCell ⟨b, 0 + 3, none⟩ (.int .i64 c.kind)).setCell ⟨b, 0 + 4, none⟩ (.int .i64 c.a)).setCell ⟨b, 0 + 5, none⟩ (.int .u64 c.ref)).setCell ⟨b, 0 + 6, none⟩ (.int .u64 c.aux)).setCell ⟨b, 0 + 7, none⟩ (.int .u64 c.prev)).setCell ⟨b, 0 + 8, none⟩ (.int .u64 c.tag)) := ⟨_, rfl⟩
  obtain ⟨h1, h2, h3, h4⟩ := set9_all W b c d h U hU
  rw [← hU] at hV
  clear hU
  subst hV
  have hn : ∀ o, (⟨b + 1, 0, none⟩ : Addr) ≠ ⟨b, o, none⟩ := fun o e => by have := congrArg Addr.block e; simp at this
  refine ⟨h1.keep (fun o => by rw [World.cell?_setCell_other (h := hn o)]), ?_, fun B hB => (h3 B hB).setCell (p := ⟨b + 1, 0, none⟩) (by show B ≤ b + 1; omega) _, fun B => (h4 B).trans ((KeepsOthers.setCell _ _ _).from _)⟩
  exact World.cell?_setCell_same' _ _ _ (by rw [h2 _ (by show b + 1 ≠ b; omega), hx]; rfl)

set_option maxRecDepth 100000 in
set_option maxHeartbeats 4000000 in
theorem latest_of (A : Option Addr) (n ca N : Nat) (time firm kind a : Int) (xs : List Cl) (w : World) (hN : N ≤ 1000000)
    (hAt : ∀ W, Below w.heap.size w W → Calls Try.prog 30 #[.slice A n ca, .int .i64 time] W (OwnPost W.heap.size W N xs)) :
    Calls Try.prog 26 #[.slice A n ca, .int .i64 time, .int .i64 firm, .int .i64 kind, .int .i64 a] w (LatPost firm kind a xs w) := by
  have HAt := hide hAt; clear hAt
  refine (callsIn_wide (n := 9)).1 ?_
  refine callsIn_of_wp_marks Try.func26 rfl trivial ?_ rfl
  simp only [Try.ntmps26, List.size_toArray, List.length_cons, List.length_nil, Nat.reduceAdd, Nat.reduceSub, Array.replicate_succ, Array.replicate_zero, List.push_toArray, List.append_toArray, List.nil_append, List.cons_append]
  gi_wp2_with fail
  refine ⟨trivial, ?_⟩
  gi_at_call 30
  refine (callsIn_wide.2 (HAt.out _ (alloc5 w _ _ _ _ _).2.2.2.2.2.2)).mono ?_
  clear HAt
  rintro e w2 ⟨A2, c2, rfl, ho2, hb2⟩
  have HQ := hide (latQ_of w w2 firm kind a hb2)
  have Hs2 := hide ho2.slc
  clear ho2 hb2
  gi_wp2_with fail
  refine ⟨trivial, ?_⟩
  gi_at_call 46
  refine (back_in Fence.wide 8 trivial rfl _ _ _ _).mono ?_
  rintro e w3 ⟨rfl, rfl⟩
  gi_wp2_with fail
  have hbox : (w2.alloc (.cells #[.slice A2 N c2] 33)).cell? ⟨w2.heap.size, 0, none⟩ = some (.slice A2 N c2) := by rw [World.cell?_alloc_new]; rfl
  have hz3 : (w2.alloc (.cells #[.slice A2 N c2] 33)).heap.size = w2.heap.size + 1 := World.size_alloc _ _
  have hs3 : SlC (w2.alloc (.cells #[.slice A2 N c2] 33)) (w2.alloc (.cells #[.slice A2 N c2] 33)).heap.size A2 N xs := (Hs2.out.alloc (Nat.le_refl _) _).more (by omega)
  have hq3 := HQ.out.below ((Below.refl _ w2).alloc (Nat.le_refl _) (.cells #[.slice A2 N c2] 33))
  have hl3 := hs3.1
  obtain ⟨w3, hw3⟩ : ∃ w3, w2.alloc (.cells #[.slice A2 N c2] 33) = w3 := ⟨_, rfl⟩
  rw [hw3] at hbox hz3 hs3 hq3 ⊢
  clear hw3
  refine wpIn_rangeFunc_ownH (n := 9) rfl (by omega) (gf := 60) (lb := #[.pointer (some ⟨w2.heap.size, 0, none⟩)]) rfl trivial (enters_of Try.func60 (by kernel_rfl) rfl)
    (back_stops Fence.wide 8 trivial rfl (by omega) w2.heap.size w3.heap.size N c2 A2 xs hN w3 (by omega) (Nat.le_refl _) hbox hs3) belowK_t (belowK_b (Nat.le_refl _)) (Below.refl _ _) (fun _ => rfl)
    (fun pre W => (∀ p ∈ pre, aboutC firm kind a p.2 = false) ∧ Below w3.heap.size w3 W)
    (fun c pre W => (c = .ret ∧ ∃ ini last, pre = ini ++ [last] ∧ (∀ p ∈ ini, aboutC firm kind a p.2 = false) ∧ aboutC firm kind a last.2 = true ∧ IsCl W (w.heap.size + 1 + 1 + 1) 0 last.2 ∧
      W.cell? ⟨w.heap.size + 1 + 1 + 1 + 1, 0, none⟩ = some (.bool true)) ∧ Below w.heap.size w W)
    (OwnFrom.and (ownFrom_pure _ _) (ownFrom_below (Nat.le_refl _) (Nat.le_refl _)))
    (fun c => OwnFrom.and (Own.from (fun s A B row hs hg hr => by obtain ⟨hc, ini, last, e1, e2, e3, e4, e5⟩ := hs; exact ⟨hc, ini, last, e1, e2, e3, isCl_kept e4 hg hr, cell_kept e5 hg hr⟩) _) (ownFrom_below (Nat.le_refl _) (by have := hq3.2.2.2.2.2.2.2.1; omega)))
    ⟨by simp, Below.refl _ _⟩
    (fun x a' W => ∃ Bx, w3.heap.size ≤ Bx ∧ IsCl W Bx 0 x.2 ∧ a' = { tmps := #[.slice A n ca, .int .i64 time, .int .i64 firm, .int .i64 kind, .int .i64 a, undef, undef, .pointer (some ⟨w.heap.size, 0, none⟩), .pointer (some ⟨w.heap.size + 1, 0, none⟩), .pointer (some ⟨w.heap.size + 1 + 1, 0, none⟩),
      .pointer (some ⟨w.heap.size + 1 + 1 + 1, 0, none⟩), .pointer (some ⟨w.heap.size + 1 + 1 + 1 + 1, 0, none⟩), undef, .pointer (some ⟨Bx, 0, none⟩), .slice A n ca, .int .i64 time, .slice A2 N c2, .func (.func 60) #[] #[.pointer (some ⟨w2.heap.size, 0, none⟩)], .int .i64 x.1, .agg #[.int .i64 x.2.firm, .int .i64 x.2.seq, .int .i64 x.2.time, .int .i64 x.2.kind, .int .i64 x.2.a, .int .u64 x.2.ref, .int .u64 x.2.aux, .int .u64 x.2.prev, .int .u64 x.2.tag],
      undef, undef, undef, undef, undef, undef, undef, undef, undef, undef, undef, undef, undef, undef, undef, undef, undef, undef], defers := [] })
    (fun x a' _ X Y row hs hg hr => by obtain ⟨Bx, h1, h2, h3⟩ := hs; exact ⟨Bx, h1, isCl_kept h2 hg (fun r e => (hr r e).2), h3⟩)
    ?assign ?body ?done ?stop
  case assign =>
    rintro l pre x W K ⟨hp, hB1⟩ hK
    gi_wp2
    exact hK _ _ ((KeepsOthers.alloc _ _).from _) ((Below.refl _ W).alloc hB1.size _) ⟨hp, hB1.alloc hB1.size _⟩ ⟨W.heap.size, hB1.size, IsCl.block (heap_alloc_new W _), rfl⟩
  case body =>
    rintro l pre x a' W hl ⟨r, hr⟩ ⟨hp, hB1⟩ ⟨Bx, hBx, bX, rfl⟩ hlt
    obtain ⟨x1, c⟩ := x
    obtain ⟨p0, p1, p2, p3, p4, p5, p6, p7, p8⟩ := bX.at0
    have HqW := hide (hq3.below hB1)
    obtain ⟨q7, q8, q9, q11, f11, q10, f10, hzW, hbW⟩ := HqW.out
    have Hr := hide hr; clear hr
    have HB1 := hide hB1; clear hB1
    have HbW := hide hbW; clear hbW
    have Hp := hide hp; clear hp
    have Hq3 := hide hq3; clear hq3
    have Hs3 := hide hs3; clear hs3
    obtain ⟨d0, d1, d2, d3, d4, d5, d6, d7, d8⟩ := q10.at0
    clear hbox hz3 q10 bX
    dsimp only at p0 p1 p2 p3 p4 p5 p6 p7 p8
    gi_wp2
    · have e1 : c.firm = firm := by assumption
      have e2 : c.kind = kind := by assumption
      have e3 : (c.a == a) = true := by assumption
      rw [← e1, ← e2]
      obtain ⟨V, hV⟩ : ∃ V, V = ((((((((((W.setCell ⟨w.heap.size + 1 + 1 + 1, 0, none⟩ (.int .i64 c.firm)).setCell ⟨w.heap.size + 1 + 1 + 1, 0 + 1, none⟩ (.int .i64 c.seq)).setCell ⟨w.heap.size + 1 + 1 + 1, 0 + 2, none⟩ (.int .i64 c.time)).setCell ⟨w.heap.size + 1 + 1 + 1, 0 + 3, none⟩ (.int .i64 c.kind)).setCell ⟨w.heap.size + 1 + 1 + 1, 0 + 4, none⟩ (.int .i64 c.a)).setCell ⟨w.heap.size + 1 + 1 + 1, 0 + 5, none⟩ (.int .u64 c.ref)).setCell ⟨w.heap.size + 1 + 1 + 1, 0 + 6, none⟩ (.int .u64 c.aux)).setCell ⟨w.heap.size + 1 + 1 + 1, 0 + 7, none⟩ (.int .u64 c.prev)).setCell ⟨w.heap.size + 1 + 1 + 1, 0 + 8, none⟩ (.int .u64 c.tag))).setCell ⟨w.heap.size + 1 + 1 + 1 + 1, 0, none⟩ (.bool true) := ⟨_, rfl⟩
      rw [← hV]
      obtain ⟨v1, v2, v3, v4⟩ := lat_ret W (w.heap.size + 1 + 1 + 1) c zeroC true false (IsCl.of0 d0 d1 d2 d3 d4 d5 d6 d7 d8) q11 V hV
      clear hV
      refine ⟨v4 _, ⟨rfl, pre, (x1, c), rfl, fun p hp' => ?_, ?_, v1, v2⟩, HbW.out.trans (v3 _ (by omega))⟩
      · rw [e1, e2]; exact Hp.out p hp'
      · simp only [beq_iff_eq] at e3; simp [aboutC, e3]
    · have e1 : c.firm = firm := by assumption
      have e2 : c.kind = kind := by assumption
      have e3 : (c.a == a) = false := by assumption
      refine ⟨KeepsFrom.refl _ _, Below.refl _ _, fun p hp' => (List.mem_append.1 hp').elim (Hp.out p) (fun e => ?_), HB1.out⟩
      simp only [List.mem_singleton] at e
      subst e
      simp only [beq_eq_false_iff_ne] at e3
      simp [aboutC, e3]
    · have e1 : c.firm = firm := by assumption
      have e2 : ¬c.kind = kind := by assumption
      refine ⟨KeepsFrom.refl _ _, Below.refl _ _, fun p hp' => (List.mem_append.1 hp').elim (Hp.out p) (fun e => ?_), HB1.out⟩
      simp only [List.mem_singleton] at e
      subst e
      simp [aboutC, e2]
    · have e1 : ¬c.firm = firm := by assumption
      refine ⟨KeepsFrom.refl _ _, Below.refl _ _, fun p hp' => (List.mem_append.1 hp').elim (Hp.out p) (fun e => ?_), HB1.out⟩
      simp only [List.mem_singleton] at e
      subst e
      simp [aboutC, e1]
  case done =>
    rintro D ys W hD rfl ⟨hp, hB1⟩ hK
    have hqW := hq3.below hB1
    obtain ⟨q7, q8, q9, q11, f11, q10, f10, hzW, hbW⟩ := hqW
    have hlat := hide (latest_none hl3 hp); clear hp
    have HB1 := hide hB1; clear hB1
    have HbW := hide hbW; clear hbW
    have hd := q10.at0
    obtain ⟨d0, d1, d2, d3, d4, d5, d6, d7, d8⟩ := hd
    have hz3' := hq3.2.2.2.2.2.2.2.1
    clear hbox hq3
    gi_wp2
    obtain ⟨V, hV⟩ : ∃ V, V = ((((((((((W.setCell ⟨w.heap.size + 1 + 1 + 1, 0, none⟩ (.int .i64 zeroC.firm)).setCell ⟨w.heap.size + 1 + 1 + 1, 0 + 1, none⟩ (.int .i64 zeroC.seq)).setCell ⟨w.heap.size + 1 + 1 + 1, 0 + 2, none⟩ (.int .i64 zeroC.time)).setCell ⟨w.heap.size + 1 + 1 + 1, 0 + 3, none⟩ (.int .i64 zeroC.kind)).setCell ⟨w.heap.size + 1 + 1 + 1, 0 + 4, none⟩ (.int .i64 zeroC.a)).setCell ⟨w.heap.size + 1 + 1 + 1, 0 + 5, none⟩ (.int .u64 zeroC.ref)).setCell ⟨w.heap.size + 1 + 1 + 1, 0 + 6, none⟩ (.int .u64 zeroC.aux)).setCell ⟨w.heap.size + 1 + 1 + 1, 0 + 7, none⟩ (.int .u64 zeroC.prev)).setCell ⟨w.heap.size + 1 + 1 + 1, 0 + 8, none⟩ (.int .u64 zeroC.tag))).setCell ⟨w.heap.size + 1 + 1 + 1 + 1, 0, none⟩ (.bool false) := ⟨_, rfl⟩
    obtain ⟨v1, v2, v3, v4⟩ := lat_ret W (w.heap.size + 1 + 1 + 1) zeroC zeroC false false q10 q11 V hV
    dsimp only [zeroC] at hV
    rw [← hV]
    clear hV
    have hK' := (v4 w3.heap.size).same D _ hD hK rfl
    refine ⟨by simp, .inl ⟨_, _, rfl, run_takeDeferred hK', ?_⟩⟩
    have hg : V.grownBy (V.putObj D (.deferred none)) (some D) := grownBy_putObj' _ D (.deferred none)
    have hr : ∀ r, some D = some r → ∃ o : Obj, V.heap[r]? = some o ∧ o.isCells = false := fun r e => by cases e; exact ⟨_, hK', rfl⟩
    obtain ⟨d0, d1, d2, d3, d4, d5, d6, d7, d8⟩ := (isCl_kept v1 hg hr).at0
    have d9 := cell_kept v2 hg hr
    refine ⟨_, ?_, ⟨by rw [hlat.out], (HbW.out.trans (v3 _ (by omega))).trans (belowK_b (w := w) (Nat.le_refl _) V D _ _ (by omega) hK' rfl rfl)⟩⟩
    simp [results, Try.f26, go_sem, d0, d1, d2, d3, d4, d5, d6, d7, d8, d9]
  case stop =>
    rintro D c pre W hD ⟨k, hk, rfl⟩ ⟨⟨rfl, ini, last, e1, e2, e3, hcl, hcr⟩, hB⟩ hK
    gi_wp2
    refine ⟨by simp, .inl ⟨_, _, rfl, run_takeDeferred hK, ?_⟩⟩
    have hg : W.grownBy (W.putObj D (.deferred none)) (some D) := grownBy_putObj' _ D (.deferred none)
    have hr : ∀ r, some D = some r → ∃ o : Obj, W.heap[r]? = some o ∧ o.isCells = false := fun r e => by cases e; exact ⟨_, hK, rfl⟩
    obtain ⟨d0, d1, d2, d3, d4, d5, d6, d7, d8⟩ := (isCl_kept hcl hg hr).at0
    have d9 := cell_kept hcr hg hr
    have hl := latest_some hl3 hk e1 e2 e3
    refine ⟨_, ?_, ⟨by rw [hl], hB.trans (belowK_b (w := w) (Nat.le_refl _) W D _ _ (by have := hq3.2.2.2.2.2.2.2.1; omega) hK rfl rfl)⟩⟩
    simp [results, Try.f26, go_sem, d0, d1, d2, d3, d4, d5, d6, d7, d8, d9]
end Go.Proofs.Ythpbjceajnaokaa
