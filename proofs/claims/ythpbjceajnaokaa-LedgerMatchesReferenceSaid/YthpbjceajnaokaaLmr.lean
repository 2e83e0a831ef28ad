/- The walk of LedgerMatchesReference: its beginning. Condition: the arguments are readable. -/
import Derived.Test.YthpbjceajnaokaaLin
import Derived.Test.YthpbjceajnaokaaFrk
import Derived.Test.YthpbjceajnaokaaLor
import Derived.Test.YthpbjceajnaokaaLdm
import Derived.Test.YthpbjceajnaokaaChn2
import Derived.Test.YthpbjceajnaokaaE51
import Derived.Test.YthpbjceajnaokaaTpl
namespace Go.Proofs.Ythpbjceajnaokaa
open Go.RowKit

theorem Low.keep {w w' : World} {L b off n : Nat} (h : Low w L b off n) (hk : ∀ o, w'.cell? ⟨b, o, none⟩ = w.cell? ⟨b, o, none⟩) : Low w' L b off n :=
  ⟨h.1, fun k A' m c' hkn hc => h.2 k A' m c' hkn (by rw [hk] at hc; exact hc)⟩
theorem Low.less {w : World} {L L' b off n : Nat} (h : Low w L b off n) (hL : L' ≤ L) : Low w L' b off n :=
  ⟨Nat.le_trans hL h.1, fun k A' m c' hkn hc hm ad e => Nat.le_trans hL (h.2 k A' m c' hkn hc hm ad e)⟩
/-- A store into a box below them. -/
theorem SlT.box {w : World} {B L b off n g q : Nat} {xss : List (List Cl)} (h : SlT w B (some ⟨b, off, none⟩) n xss) (hl : Low w L b off n) (hg : g < L) (v : Value) : SlT (w.setCell ⟨g, q, none⟩ v) B (some ⟨b, off, none⟩) n xss :=
  ⟨h.1, fun hn => by
    obtain ⟨b', o', e, hb, hc⟩ := h.2 hn
    injection e with e
    injection e with e1 e2
    subst e1 e2
    refine ⟨b, off, rfl, hb, fun k xs hk => ?_⟩
    have hkn : k < n := by have := (List.getElem?_eq_some_iff.1 hk).1; have := h.1; omega
    obtain ⟨A', c', h1, h2, h3⟩ := hc k xs hk
    have hne : (⟨g, q, none⟩ : Addr) ≠ ⟨b, off + k, none⟩ := fun e => by injection e with e; have := hl.1; omega
    refine ⟨A', c', (World.cell?_setCell_other (w := w) (v := v) (h := hne)).trans h1, h2.keepAt0 (fun hp ad e o => World.cell?_setCell_other (w := w) (v := v) (h := fun e2 => ?_)) (Nat.le_refl _), h3⟩
    injection e2 with e2
    have := hl.2 k A' _ c' hkn h1 hp ad e
    omega⟩
/-- The boxes of the change and of the claim, and the chains, as they lie. -/
def USt (w W : World) (kd N t tm l0 l1 l2 : Int) (c : Cl) (B b o : Nat) (xss : List (List Cl)) : Prop :=
  (W.cell? ⟨w.heap.size + 1, 0, none⟩ = some (.int .u8 kd) ∧ W.cell? ⟨w.heap.size + 1, 1, none⟩ = some (.int .i64 N) ∧ W.cell? ⟨w.heap.size + 1, 2, none⟩ = some (.int .u8 t) ∧ W.cell? ⟨w.heap.size + 1, 3, none⟩ = some (.int .i64 tm) ∧ W.cell? ⟨w.heap.size + 1, 4, none⟩ = some (.int .i64 l0) ∧ W.cell? ⟨w.heap.size + 1, 5, none⟩ = some (.int .i64 l1) ∧ W.cell? ⟨w.heap.size + 1, 6, none⟩ = some (.int .i64 l2)) ∧
    IsCl W (w.heap.size + 1 + 1) 0 c ∧ (∀ o, W.frozen? ⟨w.heap.size + 1 + 1, o, none⟩ = false) ∧ w.heap.size + 1 + 1 < W.heap.size ∧ Below w.heap.size w W ∧ SlT W B (some ⟨b, o, none⟩) 3 xss ∧ B ≤ W.heap.size ∧ Low W (w.heap.size + 3) b o 3
theorem USt.below {w W W' : World} {kd N t tm l0 l1 l2 : Int} {c : Cl} {B b o : Nat} {xss : List (List Cl)} (h : USt w W kd N t tm l0 l1 l2 c B b o xss) (hb : Below W.heap.size W W') : USt w W' kd N t tm l0 l1 l2 c B b o xss := by
  obtain ⟨⟨q0, q1, q2, q3, q4, q5, q6⟩, h2, h3, h4, h5, h6, h7, h8⟩ := h
  have := hb.size
  have k := fun o => hb.cell (p := ⟨w.heap.size + 1, o, none⟩) (by show w.heap.size + 1 < _; omega)
  exact ⟨⟨(k _).trans q0, (k _).trans q1, (k _).trans q2, (k _).trans q3, (k _).trans q4, (k _).trans q5, (k _).trans q6⟩, h2.keep (fun o => hb.cell (p := ⟨w.heap.size + 1 + 1, o, none⟩) h4), fun o => (hb.frozen (p := ⟨w.heap.size + 1 + 1, o, none⟩) h4).trans (h3 o), by omega, h5.trans (hb.mono h5.size), h6.below (hb.mono h7), by omega, h8.keep (fun o' => hb.cell (p := ⟨b, o', none⟩) (by obtain ⟨b', o'', e, hb', -⟩ := h6.2 (by omega); injection e with e; injection e with e; subst e; show b < W.heap.size; omega))⟩
/-- A store into the claim's box. -/
theorem USt.firm {w W : World} {kd N t tm l0 l1 l2 : Int} {c : Cl} {B b o : Nat} {xss : List (List Cl)} (h : USt w W kd N t tm l0 l1 l2 c B b o xss) (f : Int) : USt w (W.setCell ⟨w.heap.size + 1 + 1, 0, none⟩ (.int .i64 f)) kd N t tm l0 l1 l2 { c with firm := f } B b o xss := by
  obtain ⟨⟨q0, q1, q2, q3, q4, q5, q6⟩, h2, h3, h4, h5, h6, h7, h8⟩ := h
  have hn : ∀ k, (⟨w.heap.size + 1 + 1, 0, none⟩ : Addr) ≠ ⟨w.heap.size + 1, k, none⟩ := fun k e => by injection e with e; omega
  have k := fun o => World.cell?_setCell_other (w := W) (v := .int .i64 f) (h := hn o)
  obtain ⟨u0, u1, u2, u3, u4, u5, u6, u7, u8⟩ := h2.at0
  refine ⟨⟨(k _).trans q0, (k _).trans q1, (k _).trans q2, (k _).trans q3, (k _).trans q4, (k _).trans q5, (k _).trans q6⟩, ?_, fun o => by simp only [World.frozen?_setCell]; exact h3 o, by simpa using h4, h5.setCell (p := ⟨w.heap.size + 1 + 1, 0, none⟩) (by show w.heap.size ≤ w.heap.size + 1 + 1; omega) _, h6.box h8 (by omega) _, by simpa using h7, h8.keep (fun o' => World.cell?_setCell_other (w := W) (v := .int .i64 f) (h := fun e => by injection e with e; have := h8.1; omega))⟩
  exact IsCl.of0 (by go_simp) (by go_simp) (by go_simp) (by go_simp) (by go_simp) (by go_simp) (by go_simp) (by go_simp) (by go_simp)
theorem box3_start (w : World) (o1 : Obj) (kd N t tm l0 l1 l2 : Int) (c : Cl) (W : World) (hW : W = ((w.alloc o1).alloc (.cells #[.int .u8 kd, .int .i64 N, .int .u8 t, .int .i64 tm, .int .i64 l0, .int .i64 l1, .int .i64 l2] 26)).alloc (.cells (#[.int .i64 c.firm, .int .i64 c.seq, .int .i64 c.time, .int .i64 c.kind, .int .i64 c.a, .int .u64 c.ref, .int .u64 c.aux, .int .u64 c.prev, .int .u64 c.tag]) 29)) :
    (W.cell? ⟨w.heap.size + 1, 0, none⟩ = some (.int .u8 kd) ∧ W.cell? ⟨w.heap.size + 1, 1, none⟩ = some (.int .i64 N) ∧ W.cell? ⟨w.heap.size + 1, 2, none⟩ = some (.int .u8 t) ∧ W.cell? ⟨w.heap.size + 1, 3, none⟩ = some (.int .i64 tm) ∧ W.cell? ⟨w.heap.size + 1, 4, none⟩ = some (.int .i64 l0) ∧ W.cell? ⟨w.heap.size + 1, 5, none⟩ = some (.int .i64 l1) ∧ W.cell? ⟨w.heap.size + 1, 6, none⟩ = some (.int .i64 l2)) ∧
    IsCl W (w.heap.size + 1 + 1) 0 c ∧ (∀ o, W.frozen? ⟨w.heap.size + 1 + 1, o, none⟩ = false) ∧ W.heap.size = w.heap.size + 3 ∧ Below w.heap.size w W := by
  have s1 := World.size_alloc w o1
  have s2 := World.size_alloc (w.alloc o1) (.cells #[.int .u8 kd, .int .i64 N, .int .u8 t, .int .i64 tm, .int .i64 l0, .int .i64 l1, .int .i64 l2] 26)
  have n1 := heap_alloc_new (w.alloc o1) (.cells #[.int .u8 kd, .int .i64 N, .int .u8 t, .int .i64 tm, .int .i64 l0, .int .i64 l1, .int .i64 l2] 26)
  have n2 := heap_alloc_new ((w.alloc o1).alloc (.cells #[.int .u8 kd, .int .i64 N, .int .u8 t, .int .i64 tm, .int .i64 l0, .int .i64 l1, .int .i64 l2] 26)) (.cells (#[.int .i64 c.firm, .int .i64 c.seq, .int .i64 c.time, .int .i64 c.kind, .int .i64 c.a, .int .u64 c.ref, .int .u64 c.aux, .int .u64 c.prev, .int .u64 c.tag]) 29)
  rw [s1] at n1 s2
  rw [s2, ← hW] at n2
  have n3 : W.heap[w.heap.size + 1]? = some (.cells #[.int .u8 kd, .int .i64 N, .int .u8 t, .int .i64 tm, .int .i64 l0, .int .i64 l1, .int .i64 l2] 26) := by
    rw [hW, Below.heap_alloc _ _ _ (by omega)]; exact n1
  refine ⟨⟨?_, ?_, ?_, ?_, ?_, ?_, ?_⟩, IsCl.block n2, fun o => by simp only [World.frozen?, n2]; simp, by rw [hW, World.size_alloc, s2], by rw [hW]; exact (((Below.refl _ w).alloc (Nat.le_refl _) _).alloc (by omega) _).alloc (by omega) _⟩ <;> (simp only [World.cell?, n3]; rfl)

theorem USt.head {w W : World} {kd N t tm l0 l1 l2 : Int} {c : Cl} {B b o : Nat} {xss : List (List Cl)} (h : USt w W kd N t tm l0 l1 l2 c B b o xss) {i : Nat} {xs : List Cl} (hi : i < 3) (hx : xss[i]? = some xs) :
    ∃ A' cc, W.cell? ⟨b, o + i, none⟩ = some (.slice A' xs.length cc) ∧ SlC W B A' xs.length xs ∧ xs.length ≤ cc ∧ b < B := by
  obtain ⟨b', o', ys, A', cc, e, hb, hy, h1, h2, h3⟩ := h.2.2.2.2.2.1.at_ hi
  injection e with e
  injection e with e1 e2
  subst e1 e2
  rw [hx] at hy
  injection hy with hy
  subst hy
  exact ⟨A', cc, h1, h2, h3, hb⟩
/-- A store to a row behind all that. -/
theorem USt.far {w W W' : World} {kd N t tm l0 l1 l2 : Int} {c : Cl} {B b o g : Nat} {xss : List (List Cl)} (h : USt w W kd N t tm l0 l1 l2 c B b o xss) (hg : W.grownBy W' (some g)) (hBg : B ≤ g) (hbB : w.heap.size + 1 + 1 < B) : USt w W' kd N t tm l0 l1 l2 c B b o xss := by
  obtain ⟨⟨q0, q1, q2, q3, q4, q5, q6⟩, h2, h3, h4, h5, h6, h7, h8⟩ := h
  have hk : ∀ p : Addr, p.block < B → W'.cell? p = W.cell? p := fun p hp => hg.cell_far p (by omega) (fun e => by injection e with e; omega)
  have k1 : ∀ o, W'.cell? ⟨w.heap.size + 1, o, none⟩ = W.cell? ⟨w.heap.size + 1, o, none⟩ := fun o => hk _ (by show w.heap.size + 1 < B; omega)
  refine ⟨⟨(k1 _).trans q0, (k1 _).trans q1, (k1 _).trans q2, (k1 _).trans q3, (k1 _).trans q4, (k1 _).trans q5, (k1 _).trans q6⟩, h2.keep (fun o => hk _ (by show w.heap.size + 1 + 1 < B; exact hbB)), fun o => (hg.frozen_far ⟨w.heap.size + 1 + 1, o, none⟩ h4 (fun e => by injection e with e; have e : w.heap.size + 1 + 1 = g := e; omega)).trans (h3 o), Nat.lt_of_lt_of_le h4 hg.size, h5.grown hg (by have := h5.size; omega) (fun k e => by injection e with e; omega), ?_, Nat.le_trans h7 hg.size, h8.keep (fun o' => hk ⟨b, o', none⟩ (by obtain ⟨b', o'', e, hb', -⟩ := h6.2 (by omega); injection e with e; injection e with e; subst e; exact hb'))⟩
  refine ⟨h6.1, fun hn => ?_⟩
  obtain ⟨b', o', e, hb', hc'⟩ := h6.2 hn
  refine ⟨b', o', e, hb', fun k xs hx => ?_⟩
  obtain ⟨A', c', e1, e2, e3⟩ := hc' k xs hx
  exact ⟨A', c', (hk ⟨b', o' + k, none⟩ hb').trans e1, e2.keep hk, e3⟩
theorem wf_wrap (x : Int) : (Lit.int .i64 (wrap64 x)).wf = true := i64_wf (by unfold wrap64; omega) (by unfold wrap64; omega)
theorem chg_wf {c : Cl} (h : wfC c) (r n : Int) : wfC (chgF c r n) := by
  unfold chgF
  split
  · exact h
  split
  · exact ⟨wf_wrap _, h.2⟩
  split
  · exact h
  split
  · exact h
  split
  · exact ⟨h.1, wf_wrap _⟩
  split
  · exact h
  split
  · exact h
  split
  · exact h
  · exact h
theorem set_wf {xs : List Cl} {k : Nat} {d : Cl} (h : ∀ c ∈ xs, wfC c) (hd : wfC d) : ∀ c ∈ xs.set k d, wfC c := fun c hc => by
  rcases List.mem_or_eq_of_mem_set hc with h1 | h1
  · exact h c h1
  · rw [h1]; exact hd
/-- The chain that was changed. -/
def VSt (W : World) (A : Option Addr) (m cb L : Nat) (ys : List Cl) : Prop := SlC W W.heap.size A m ys ∧ m ≤ cb ∧ (∀ d ∈ ys, wfC d) ∧ (0 < m → ∀ ad, A = some ad → L ≤ ad.block)
theorem VSt.below {W W' : World} {A : Option Addr} {m cb L : Nat} {ys : List Cl} (h : VSt W A m cb L ys) (hb : Below W.heap.size W W') : VSt W' A m cb L ys := ⟨(h.1.below hb).more hb.size, h.2⟩
theorem VSt.box {W : World} {A : Option Addr} {m cb L g q : Nat} {ys : List Cl} (h : VSt W A m cb L ys) (hg : g < L) (v : Value) : VSt (W.setCell ⟨g, q, none⟩ v) A m cb L ys :=
  ⟨h.1.keepAt0 (fun hp ad e o => World.cell?_setCell_other (w := W) (v := v) (h := fun e2 => by injection e2 with e2; have := h.2.2.2 hp ad e; omega)) (by simp), h.2⟩

/-- All that lies: the boxes, the chains, the changed one, the first one. -/
def MSt (w W : World) (kd N t tm l0 l1 l2 : Int) (c : Cl) (B b o : Nat) (xss : List (List Cl)) (A3 : Option Addr) (m c4 : Nat) (ys : List Cl) (Aa : Option Addr) (x0 : List Cl) : Prop :=
  USt w W kd N t tm l0 l1 l2 c B b o xss ∧ VSt W A3 m c4 B ys ∧ SlC W B Aa m x0
theorem MSt.below {w W W' : World} {kd N t tm l0 l1 l2 : Int} {c : Cl} {B b o : Nat} {xss : List (List Cl)} {A3 : Option Addr} {m c4 : Nat} {ys : List Cl} {Aa : Option Addr} {x0 : List Cl}
    (h : MSt w W kd N t tm l0 l1 l2 c B b o xss A3 m c4 ys Aa x0) (hb : Below W.heap.size W W') : MSt w W' kd N t tm l0 l1 l2 c B b o xss A3 m c4 ys Aa x0 :=
  ⟨h.1.below hb, h.2.1.below hb, h.2.2.below (hb.mono h.1.2.2.2.2.2.2.1)⟩
theorem MSt.fst {w W : World} {kd N t tm l0 l1 l2 : Int} {c : Cl} {B b o : Nat} {xss : List (List Cl)} {A3 : Option Addr} {m c4 : Nat} {ys : List Cl} {Aa : Option Addr} {x0 : List Cl}
    (h : MSt w W kd N t tm l0 l1 l2 c B b o xss A3 m c4 ys Aa x0) : SlC W W.heap.size Aa m x0 := h.2.2.more h.1.2.2.2.2.2.2.1
theorem appRes_one {key : Int} {A : Option Addr} {n ca : Nat} {xs : List Cl} {c : Cl} {w1 w2 : World} {A1 A2 : Option Addr} {n1 n2 c1 c2 : Nat} {ys1 ys2 : List Cl} {e1 e2 : Int}
    (h1 : AppRes key A n ca xs c w1 A1 n1 c1 ys1 e1) (h2 : AppRes key A n ca xs c w2 A2 n2 c2 ys2 e2) : e1 = e2 ∧ n1 = n2 ∧ ys1 = ys2 := by
  rcases h1.2 with ⟨a, b, d, f, -⟩ | ⟨a, b, -, d, -, f⟩ <;> rcases h2.2 with ⟨a', b', d', f', -⟩ | ⟨a', b', -, d', -, f'⟩
  · exact ⟨b.trans b'.symm, f.trans f'.symm, d.trans d'.symm⟩
  · rw [a] at a'; cases a'
  · rw [a] at a'; cases a'
  · exact ⟨b.trans b'.symm, d.trans d'.symm, f.trans f'.symm⟩
theorem appRes_le {key : Int} {A : Option Addr} {n ca : Nat} {xs : List Cl} {c : Cl} {w1 : World} {A1 : Option Addr} {n1 c1 : Nat} {ys1 : List Cl} {e1 : Int}
    (h1 : AppRes key A n ca xs c w1 A1 n1 c1 ys1 e1) : n1 ≤ n + 1 := by
  rcases h1.2 with ⟨a, b, d, f, -⟩ | ⟨a, b, -, d, -, f⟩ <;> omega

theorem neq_fork (a : Int) (f : Bool) (W : World) : (binOp .neq 46 (.agg #[.int .i64 a, .bool f]) (.agg #[.int .i64 a, .bool f])).run Try.prog W = .ok (.bool false) W := by
  have u3 := Try.underlying3
  have u4 := Try.underlying4
  have hS : Try.prog.underlying 46 = some (.struct (Try.prog.fieldsOf 46)) := by kernel_rfl
  have hp : Try.prog.stoodInHeld 46 = false := by kernel_rfl
  rw [run_neq_struct, show (10000 : Nat) = 9999 + 1 from rfl, run_equalIn_agg W 9999 46 _ _ hS hp]
  simp only [Program.fieldsOf, Try.underlying46]
  go_simp
/-- The row of the three slices that are merged. -/
def TB (W : World) (g : Nat) (Aa A3 : Option Addr) (m ca c4 i : Nat) : Prop :=
  W.cell? ⟨g, 0, none⟩ = some (.slice Aa m ca) ∧ W.cell? ⟨g, 1, none⟩ = some (.slice A3 m c4) ∧ W.cell? ⟨g, 2, none⟩ = some (.slice A3 i c4) ∧ g < W.heap.size
theorem TB.below {W W' : World} {g : Nat} {Aa A3 : Option Addr} {m ca c4 i : Nat} (h : TB W g Aa A3 m ca c4 i) (hb : Below W.heap.size W W') : TB W' g Aa A3 m ca c4 i :=
  ⟨(hb.cell (p := ⟨g, 0, none⟩) h.2.2.2).trans h.1, (hb.cell (p := ⟨g, 1, none⟩) h.2.2.2).trans h.2.1, (hb.cell (p := ⟨g, 2, none⟩) h.2.2.2).trans h.2.2.1, Nat.lt_of_lt_of_le h.2.2.2 hb.size⟩
theorem TB.start (W : World) (Aa A3 : Option Addr) (m ca c4 i : Nat) : TB (W.alloc (.cells #[.slice Aa m ca, .slice A3 m c4, .slice A3 i c4] 33)) W.heap.size Aa A3 m ca c4 i := by
  have n0 := heap_alloc_new W (.cells #[.slice Aa m ca, .slice A3 m c4, .slice A3 i c4] 33)
  exact ⟨by simp only [World.cell?, n0]; rfl, by simp only [World.cell?, n0]; rfl, by simp only [World.cell?, n0]; rfl, by simp⟩
theorem TB.get {w W : World} {kd N t tm l0 l1 l2 : Int} {c : Cl} {B b o : Nat} {xss : List (List Cl)} {A3 : Option Addr} {m c4 : Nat} {ys : List Cl} {Aa : Option Addr} {x0 : List Cl} {g ca i k : Nat}
    (h : TB W g Aa A3 m ca c4 i) (hM : MSt w W kd N t tm l0 l1 l2 c B b o xss A3 m c4 ys Aa x0) (hi : i ≤ m) (hk : k < 3) :
    ∃ Ax nx cx zs, W.cell? ⟨g, k, none⟩ = some (.slice Ax nx cx) ∧ nx ≤ m ∧ ∀ V, Below W.heap.size W V → SlC V V.heap.size Ax nx zs := by
  rcases k with _ | _ | _ | k
  · exact ⟨Aa, m, ca, x0, h.1, Nat.le_refl _, fun V hV => (hM.below hV).fst⟩
  · exact ⟨A3, m, c4, ys, h.2.1, Nat.le_refl _, fun V hV => (hM.below hV).2.1.1⟩
  · exact ⟨A3, i, c4, ys.take i, h.2.2.1, hi, fun V hV => (hM.below hV).2.1.1.take hi⟩
  · omega
theorem mergeIs_one {A B : Option Addr} {n m ca cb : Nat} {xs ys : List Cl} {p p' : Option Addr} {k k' c c' : Nat} {er er' : Int} (h : MergeIs A B n m ca cb xs ys p k c er) (h' : MergeIs A B n m ca cb xs ys p' k' c' er') :
    p' = p ∧ k' = k ∧ c' = c ∧ er' = er := by
  rcases h with ⟨a, b, d, e, f⟩ | ⟨a, q, b, d, e, f⟩ | ⟨a, q, b, d, e, f⟩ <;> rcases h' with ⟨a', b', d', e', f'⟩ | ⟨a', q', b', d', e', f'⟩ | ⟨a', q', b', d', e', f'⟩
  all_goals first
    | exact ⟨b'.trans b.symm, d'.trans d.symm, e'.trans e.symm, f'.trans f.symm⟩
    | (exfalso; omega)
    | (rw [a] at a'; cases a')
theorem mergeIs_sl {A B : Option Addr} {n m ca cb : Nat} {xs ys : List Cl} {p : Option Addr} {k c : Nat} {er : Int} (h : MergeIs A B n m ca cb xs ys p k c er) :
    ∃ zs, k ≤ n + m ∧ ∀ V : World, SlC V V.heap.size A n xs → SlC V V.heap.size B m ys → SlC V V.heap.size p k zs := by
  rcases h with ⟨-, rfl, rfl, -, -⟩ | ⟨-, -, rfl, rfl, -, -⟩ | ⟨-, -, rfl, rfl, -, -⟩
  · exact ⟨[], by omega, fun V _ _ => SlC.none_⟩
  · exact ⟨ys, by omega, fun V _ h => h⟩
  · exact ⟨xs, by omega, fun V h _ => h⟩

theorem odd_sl {W : World} {A3 A1 : Option Addr} {m c4 k1 : Nat} {ys x1 : List Cl} (c : Cl) (h3 : SlC W W.heap.size A3 m ys) (h1 : SlC W W.heap.size A1 x1.length x1) :
    SlS ((W.drew.alloc (.cells (#[.int .i64 c.firm, .int .i64 c.seq, .int .i64 c.time, .int .i64 c.kind, .int .i64 c.a, .int .u64 c.ref, .int .u64 c.aux, .int .u64 c.prev, .int .u64 c.tag]) 29)).alloc (.cells #[.slice A3 m c4, .slice A1 x1.length k1, .slice A3 m c4, .slice (some ⟨W.heap.size, 0, none⟩) 1 1] 33)) (W.heap.size + 2) (some ⟨W.heap.size + 1, 0, none⟩) 4 [ys, x1, ys, [c]] := by
  have hz : (W.drew.alloc (.cells (#[.int .i64 c.firm, .int .i64 c.seq, .int .i64 c.time, .int .i64 c.kind, .int .i64 c.a, .int .u64 c.ref, .int .u64 c.aux, .int .u64 c.prev, .int .u64 c.tag]) 29)).heap.size = W.heap.size + 1 := World.size_alloc _ _
  have n := heap_alloc_new (W.drew.alloc (.cells (#[.int .i64 c.firm, .int .i64 c.seq, .int .i64 c.time, .int .i64 c.kind, .int .i64 c.a, .int .u64 c.ref, .int .u64 c.aux, .int .u64 c.prev, .int .u64 c.tag]) 29)) (.cells #[.slice A3 m c4, .slice A1 x1.length k1, .slice A3 m c4, .slice (some ⟨W.heap.size, 0, none⟩) 1 1] 33)
  rw [hz] at n
  have hone : SlC ((W.drew.alloc (.cells (#[.int .i64 c.firm, .int .i64 c.seq, .int .i64 c.time, .int .i64 c.kind, .int .i64 c.a, .int .u64 c.ref, .int .u64 c.aux, .int .u64 c.prev, .int .u64 c.tag]) 29)).alloc (.cells #[.slice A3 m c4, .slice A1 x1.length k1, .slice A3 m c4, .slice (some ⟨W.heap.size, 0, none⟩) 1 1] 33)) (W.heap.size + 2) (some ⟨W.heap.size, 0, none⟩) 1 [c] := by
    have h : SlC (W.drew.alloc (.cells (#[.int .i64 c.firm, .int .i64 c.seq, .int .i64 c.time, .int .i64 c.kind, .int .i64 c.a, .int .u64 c.ref, .int .u64 c.aux, .int .u64 c.prev, .int .u64 c.tag]) 29)) (W.heap.size + 1) (some ⟨W.heap.size, 0, none⟩) 1 [c] := slc_one W.drew c
    exact (h.alloc (by omega) _).more (by omega)
  have g3 := (slc_two h3 (.cells (#[.int .i64 c.firm, .int .i64 c.seq, .int .i64 c.time, .int .i64 c.kind, .int .i64 c.a, .int .u64 c.ref, .int .u64 c.aux, .int .u64 c.prev, .int .u64 c.tag]) 29) (.cells #[.slice A3 m c4, .slice A1 x1.length k1, .slice A3 m c4, .slice (some ⟨W.heap.size, 0, none⟩) 1 1] 33)).more (B' := W.heap.size + 2) (by omega)
  have g1 := (slc_two h1 (.cells (#[.int .i64 c.firm, .int .i64 c.seq, .int .i64 c.time, .int .i64 c.kind, .int .i64 c.a, .int .u64 c.ref, .int .u64 c.aux, .int .u64 c.prev, .int .u64 c.tag]) 29) (.cells #[.slice A3 m c4, .slice A1 x1.length k1, .slice A3 m c4, .slice (some ⟨W.heap.size, 0, none⟩) 1 1] 33)).more (B' := W.heap.size + 2) (by omega)
  obtain rfl : m = ys.length := h3.1.symm
  refine ⟨rfl, fun _ => ⟨W.heap.size + 1, 0, rfl, Nat.lt_succ_self _, fun k xs hk => ?_⟩⟩
  rcases k with _ | _ | _ | _ | k
  · simp only [List.getElem?_cons_zero, Option.some.injEq] at hk
    subst hk
    exact ⟨A3, c4, by simp only [World.cell?, n]; rfl, g3⟩
  · simp only [List.getElem?_cons_zero, List.getElem?_cons_succ, Option.some.injEq] at hk
    subst hk
    exact ⟨A1, k1, by simp only [World.cell?, n]; rfl, g1⟩
  · simp only [List.getElem?_cons_zero, List.getElem?_cons_succ, Option.some.injEq] at hk
    subst hk
    exact ⟨A3, c4, by simp only [World.cell?, n]; rfl, g3⟩
  · simp only [List.getElem?_cons_zero, List.getElem?_cons_succ, Option.some.injEq] at hk
    subst hk
    exact ⟨some ⟨W.heap.size, 0, none⟩, 1, by simp only [World.cell?, n]; rfl, hone⟩
  · simp at hk
theorem keepU {W w' : World} {g b o : Nat} {c : Cl} {v : Value} (hb : Below W.heap.size W w') (h : IsCl W g 0 c) (hg : g < W.heap.size) (p : W.cell? ⟨b, o, none⟩ = some v) :
    w'.cell? ⟨g, 0, none⟩ = some (.int .i64 c.firm) ∧ w'.cell? ⟨g, 1, none⟩ = some (.int .i64 c.seq) ∧ w'.cell? ⟨g, 2, none⟩ = some (.int .i64 c.time) ∧ w'.cell? ⟨g, 3, none⟩ = some (.int .i64 c.kind) ∧ w'.cell? ⟨g, 4, none⟩ = some (.int .i64 c.a) ∧ w'.cell? ⟨g, 5, none⟩ = some (.int .u64 c.ref) ∧ w'.cell? ⟨g, 6, none⟩ = some (.int .u64 c.aux) ∧ w'.cell? ⟨g, 7, none⟩ = some (.int .u64 c.prev) ∧ w'.cell? ⟨g, 8, none⟩ = some (.int .u64 c.tag) ∧ w'.cell? ⟨b, o, none⟩ = some v ∧ Below W.heap.size W w' := by
  obtain ⟨y0, y1, y2, y3, y4, y5, y6, y7, y8⟩ := (h.keep (w' := w') (fun o => hb.cell (p := ⟨g, o, none⟩) hg)).at0
  exact ⟨y0, y1, y2, y3, y4, y5, y6, y7, y8, (hb.cell (p := ⟨b, o, none⟩) (World.block_lt_of_cell? W _ p)).trans p, hb⟩

theorem forced4 (a b c d : List Cl) (T : Int) : (forcedL [a, b, c, d] T 4).flatten.length ≤ a.length + b.length + c.length + d.length := by
  simp only [forcedL, show List.range 4 = [0, 1, 2, 3] from rfl, List.map_cons, List.map_nil, List.flatten_cons, List.flatten_nil, List.length_append, List.length_nil]
  refine Nat.le_trans (Nat.add_le_add (List.length_filter_le _ _) (Nat.add_le_add (List.length_filter_le _ _) (Nat.add_le_add (List.length_filter_le _ _) (Nat.add_le_add (List.length_filter_le _ _) (Nat.le_refl 0))))) ?_
  show a.length + (b.length + (c.length + (d.length + 0))) ≤ _
  omega
/-- A slice of the call's own, and the world has only grown, since V and since w0. -/
def OwB (w0 V : World) (N : Nat) (xs : List Cl) (e : Ending) (w' : World) : Prop := ∃ A c, e = .returned (.slice A N c) ∧ SlC w' w'.heap.size A N xs ∧ Below V.heap.size V w' ∧ Below w0.heap.size w0 w'
theorem OwB.of {w0 V : World} {N : Nat} {xs : List Cl} {f : FuncId} {args : Array Value} (hV : Below w0.heap.size w0 V) (h : Calls Try.prog f args V (OwnPost V.heap.size V N xs)) : Calls Try.prog f args V (OwB w0 V N xs) :=
  h.mono fun _ w' ⟨A, c, he, ho, hb⟩ => ⟨A, c, he, ho.slc, hb, hV.trans (hb.mono hV.size)⟩
theorem keepW {W w' : World} {g s : Nat} {c : Cl} {v3 v4 v5 v6 : Value} (hb : Below W.heap.size W w') (h : IsCl W g 0 c) (hg : g < W.heap.size) (p : W.cell? ⟨s, 3, none⟩ = some v3 ∧ W.cell? ⟨s, 4, none⟩ = some v4 ∧ W.cell? ⟨s, 5, none⟩ = some v5 ∧ W.cell? ⟨s, 6, none⟩ = some v6) :
    w'.cell? ⟨g, 0, none⟩ = some (.int .i64 c.firm) ∧ w'.cell? ⟨g, 1, none⟩ = some (.int .i64 c.seq) ∧ w'.cell? ⟨g, 2, none⟩ = some (.int .i64 c.time) ∧ w'.cell? ⟨g, 3, none⟩ = some (.int .i64 c.kind) ∧ w'.cell? ⟨g, 4, none⟩ = some (.int .i64 c.a) ∧ w'.cell? ⟨g, 5, none⟩ = some (.int .u64 c.ref) ∧ w'.cell? ⟨g, 6, none⟩ = some (.int .u64 c.aux) ∧ w'.cell? ⟨g, 7, none⟩ = some (.int .u64 c.prev) ∧ w'.cell? ⟨g, 8, none⟩ = some (.int .u64 c.tag) ∧ w'.cell? ⟨s, 3, none⟩ = some v3 ∧ w'.cell? ⟨s, 4, none⟩ = some v4 ∧ w'.cell? ⟨s, 5, none⟩ = some v5 ∧ w'.cell? ⟨s, 6, none⟩ = some v6 ∧ Below W.heap.size W w' := by
  obtain ⟨y0, y1, y2, y3, y4, y5, y6, y7, y8⟩ := (h.keep (w' := w') (fun o => hb.cell (p := ⟨g, o, none⟩) hg)).at0
  obtain ⟨p3, p4, p5, p6⟩ := p
  have l := World.block_lt_of_cell? W _ p3
  exact ⟨y0, y1, y2, y3, y4, y5, y6, y7, y8, (hb.cell (p := ⟨s, 3, none⟩) l).trans p3, (hb.cell (p := ⟨s, 4, none⟩) l).trans p4, (hb.cell (p := ⟨s, 5, none⟩) l).trans p5, (hb.cell (p := ⟨s, 6, none⟩) l).trans p6, hb⟩

theorem quiet_via {P : Program} {ops : Array Oper} {C : World → Prop} {Q : Act → Prop} {l : List Oper} {a af : Act} (h : wpQuiet P ops C (fun a' => a' = af) l a) (hq : Q af) : wpQuiet P ops C Q l a := by
  induction l generalizing a with
  | nil => exact (show a = af from h) ▸ hq
  | cons o rest ih =>
    unfold wpQuiet at h ⊢
    split
    · rename_i hw
      rw [if_pos hw] at h
      exact Oper.quiet_mono (fun _ h' => ih h') h
    · rename_i hw
      rw [if_neg hw] at h
      exact ih h

/-- A statement that is proved later. -/
structure Later (p : Prop) : Prop where
  out : p
set_option maxRecDepth 100000 in
set_option maxHeartbeats 40000000 in
def match_cut : PSigma (fun G : Prop => Later G → ∀ (A0 A1 A2 : Option Addr) (n0 n1 n2 c0 c1 c2 : Nat) (kd N t tm l0 l1 l2 : Int) (c : Cl) (w : World) (h0 : RawsAt w w.heap.size A0 n0) (h1 : RawsAt w w.heap.size A1 n1) (h2 : RawsAt w w.heap.size A2 n2)
    (hkd : 0 ≤ kd ∧ kd < 256) (ht : 0 ≤ t ∧ t < 256) (hc : wfC c),
    Calls Try.prog 3 #[.agg #[.slice A0 n0 c0, .slice A1 n1 c1, .slice A2 n2 c2], .agg #[.int .u8 kd, .int .i64 N, .int .u8 t, .int .i64 tm, .int .i64 l0, .int .i64 l1, .int .i64 l2], .agg #[.int .i64 c.firm, .int .i64 c.seq, .int .i64 c.time, .int .i64 c.kind, .int .i64 c.a, .int .u64 c.ref, .int .u64 c.aux, .int .u64 c.prev, .int .u64 c.tag]] w fun e w' => e = .returned (.bool true) ∧ Below w.heap.size w w') := ⟨_, fun hG A0 A1 A2 n0 n1 n2 c0 c1 c2 kd N t tm l0 l1 l2 c w h0 h1 h2 hkd ht hc => by
  have H := hide (And.intro h0 (And.intro h1 h2))
  have Hp := hide (And.intro hkd (And.intro ht hc))
  clear h0 h1 h2 hkd ht hc
  go_enter Try.func3, Try.ntmps3
  go_upto_region 1 with (fail)
  rename_i Qf _ _
  obtain ⟨W, hW⟩ : ∃ V, V = ((w.alloc (.cells #[.slice A0 n0 c0, .slice A1 n1 c1, .slice A2 n2 c2] 23)).alloc (.cells #[.int .u8 kd, .int .i64 N, .int .u8 t, .int .i64 tm, .int .i64 l0, .int .i64 l1, .int .i64 l2] 26)).alloc (.cells (#[.int .i64 c.firm, .int .i64 c.seq, .int .i64 c.time, .int .i64 c.kind, .int .i64 c.a, .int .u64 c.ref, .int .u64 c.aux, .int .u64 c.prev, .int .u64 c.tag]) 29) := ⟨_, rfl⟩
  have hbx := box3_start w _ kd N t tm l0 l1 l2 c W hW
  have hrb : ∀ k v, (w.alloc (.cells #[.slice A0 n0 c0, .slice A1 n1 c1, .slice A2 n2 c2] 23)).cell? ⟨w.heap.size, k, none⟩ = some v → W.cell? ⟨w.heap.size, k, none⟩ = some v := fun k v h => by
    rw [hW, World.cell?_alloc_lt _ _ _ (by simp; omega), World.cell?_alloc_lt _ _ _ (by simp)]
    exact h
  have g0 := hrb 0 (.slice A0 n0 c0) (by rw [World.cell?_alloc_new]; rfl)
  have g1 := hrb 1 (.slice A1 n1 c1) (by rw [World.cell?_alloc_new]; rfl)
  have g2 := hrb 2 (.slice A2 n2 c2) (by rw [World.cell?_alloc_new]; rfl)
  rw [← hW]
  clear hW hrb
  have Hbx := hide hbx
  have hz0 : w.heap.size < W.heap.size := by have := hbx.2.2.2.1; omega
  clear hbx
  go_wp2_with fail
  refine (examples_any _).mono ?_
  rintro e w1 ⟨rfl, hb1⟩
  have p0 := (hb1.cell (p := ⟨w.heap.size, 0, none⟩) hz0).trans g0
  have p1 := (hb1.cell (p := ⟨w.heap.size, 1, none⟩) hz0).trans g1
  have p2 := (hb1.cell (p := ⟨w.heap.size, 2, none⟩) hz0).trans g2
  have hb01 : Below w.heap.size w w1 := Hbx.out.2.2.2.2.trans (hb1.mono (Nat.le_of_lt hz0))
  have Hb01 := hide hb01
  have Hb1 := hide hb1
  clear g0 g1 g2 hb1 hb01
  go_upto_region 5 with (fail)
  refine (chains2_any A0 A1 A2 n0 n1 n2 c0 c1 c2 _ (H.out.1.keep (fun b o hb => Hb01.out.cell (p := ⟨b, o, none⟩) hb) Hb01.out.size) (H.out.2.1.keep (fun b o hb => Hb01.out.cell (p := ⟨b, o, none⟩) hb) Hb01.out.size) (H.out.2.2.keep (fun b o hb => Hb01.out.cell (p := ⟨b, o, none⟩) hb) Hb01.out.size)).mono ?_
  rintro e w2 ⟨b, o, c3, xss, rfl, hsl2, hc3, hchn, hb2, hlow⟩
  have hbb : b < w2.heap.size := by
    obtain ⟨b', o', e, hb', -⟩ := hsl2.2 (by omega)
    injection e with e
    injection e with e
    subst e
    exact hb'
  have hlow3 : Low w2 (w.heap.size + 3) b o 3 := hlow.less (by have := Hbx.out.2.2.2.1; have := Hb1.out.size; omega)
  have Hc3 := hide hc3
  have hb12 : Below W.heap.size W w2 := Hb1.out.trans (hb2.mono Hb1.out.size)
  have U2 := hide (show USt w w2 kd N t tm l0 l1 l2 c w2.heap.size b o xss from by
    obtain ⟨⟨q0, q1, q2, q3, q4, q5, q6⟩, k2, k3, k4, k5⟩ := Hbx.out
    have k := fun o => hb12.cell (p := ⟨w.heap.size + 1, o, none⟩) (by show w.heap.size + 1 < _; omega)
    exact ⟨⟨(k _).trans q0, (k _).trans q1, (k _).trans q2, (k _).trans q3, (k _).trans q4, (k _).trans q5, (k _).trans q6⟩, k2.keep (fun o => hb12.cell (p := ⟨w.heap.size + 1 + 1, o, none⟩) (by show w.heap.size + 1 + 1 < _; omega)), fun o => (hb12.frozen (p := ⟨w.heap.size + 1 + 1, o, none⟩) (by show w.heap.size + 1 + 1 < _; omega)).trans (k3 o), by have := hb12.size; omega, k5.trans (hb12.mono k5.size), hsl2, Nat.le_refl _, hlow3⟩)
  have Hchn := hide hchn
  have Hl := hide hsl2.1
  obtain ⟨B, hB⟩ : ∃ B, B = w2.heap.size := ⟨_, rfl⟩
  have hBw : w.heap.size + 1 + 1 < B := by rw [hB]; exact U2.out.2.2.2.1
  rw [← hB] at U2
  clear hsl2 hchn hb2 hlow hlow3 hc3 p0 p1 p2 Hb1 Hb01 H hbb hB hb12 Hbx hz0
  obtain ⟨x0, x1, x2, rfl⟩ := three_of Hl.out
  have hw0 : ∀ d ∈ x0, wfC d := fun d hd => by
    obtain ⟨j, hj⟩ := List.getElem?_of_mem hd
    exact okF_seq (okAt_parts (chk_at (Hchn.out 0 x0 rfl).1.1 hj)).1
  have hm0 : x0.length ≤ 12 := (Hchn.out 0 x0 rfl).2
  obtain ⟨Aa, ca, pa, sa, la, hbB⟩ := U2.out.head (i := 0) (by omega) rfl
  have Sa := hide sa
  rw [Nat.add_zero] at pa
  obtain ⟨m, hm⟩ : ∃ m, m = x0.length := ⟨_, rfl⟩
  rw [← hm] at pa Sa la hm0
  have HlowA := hide (U2.out.2.2.2.2.2.2.2.2 0 Aa m ca (by omega) (by rw [Nat.add_zero]; exact pa))
  have Hm := hide hm
  have Hw0 := hide hw0
  clear hm hw0 sa
  have HU := hide hBw
  go_upto_region 6 with (fail)
  have Sa2 := hide (Sa.out.more U2.out.2.2.2.2.2.2.1)
  go_upto_region 7 with (at_builtin; refine wpList_app rfl (.tmp 31) (.tmp 32) rfl (.slice (some ⟨w2.heap.size, 0, none⟩) 0 0) rfl Aa m ca rfl w2.heap.size 0 w2.heap.size [] x0 (World.ownsRow_made w2 #[] 0 (Nat.le_refl _) (by decide) rfl) (Sa2.out.alloc (Nat.le_refl _) _) (by omega) (by simp) ?_; intro A3 c4 w3 how hgr hat)
  simp only [Nat.zero_add, List.nil_append] at how ⊢
  have hb3 : Below w2.heap.size w2 w3 := ((Below.refl _ w2).alloc (Nat.le_refl _) _).grown hgr (by simp) (by simp [Value.ownBlock])
  have U3 := hide (U2.out.below hb3)
  have Sa3 := hide (Sa.out.below (hb3.mono U2.out.2.2.2.2.2.2.1))
  have How := hide how
  have hbase : B ≤ w2.heap.size := U2.out.2.2.2.2.2.2.1
  have hmc : m ≤ c4 := how.cap_le
  have hlen : x0.length = m := Hm.out.symm
  have Hlen := hide hlen
  clear how hgr hat hb3 pa Sa2 hlen Sa U2
  go_upto_if 36 with (fail)
  go_cut [11] (fun _ wx => ∃ ys, USt w wx kd N t tm l0 l1 l2 c B b o [x0, x1, x2] ∧ VSt wx A3 m c4 B ys ∧ SlC wx B Aa m x0)
  case first =>
    rcases Nat.eq_zero_or_pos m with hz | hz
    · have hd : decide (0 < (m : Int)) = false := decide_eq_false (by omega)
      have hd2 : decide (0 < m) = false := decide_eq_false (by omega)
      go_wp2_with fail
      go_meet
      exact ⟨x0, U3.out, ⟨How.out.slc, hmc, Hw0.out, fun h => absurd h (by omega)⟩, Sa3.out⟩
    · have hd : decide (0 < (m : Int)) = true := decide_eq_true (by omega)
      obtain ⟨g, cap, hv, hg1, hg2⟩ := How.out.form hz
      injection hv with hv1 hv2 hv3
      subst hv1 hv3
      obtain ⟨k, hk, hkm⟩ := rem_pos Hp.out.2.1 hz
      obtain ⟨d0, hx⟩ : ∃ d, x0[k]? = some d := ⟨x0[k]'(by rw [Hlen.out]; exact hkm), List.getElem?_eq_getElem _⟩
      have Hx := hide hx
      clear hx
      obtain ⟨q0, q1, q2, -, -, -, -⟩ := U3.out.1
      go_upto_region 9 with (fail)
      have Hrow := hide How.out.toRow
      have Kc := fun W => hide (changed_any d0 kd N W Hp.out.1)
      have Hd := hide (chg_wf (Hw0.out d0 (List.mem_of_getElem? Hx.out)) (kd % 9) N)
      obtain ⟨d, hd'⟩ : ∃ d, d = chgF d0 (kd % 9) N := ⟨_, rfl⟩
      rw [← hd'] at Kc Hd
      clear hd' q2
      have hkm2 : (k : Int) < (m : Int) := by omega
      have hk0 : (0 : Int) ≤ (k : Int) := by omega
      have Hkl := hide (show k < x0.length by rw [Hlen.out]; exact hkm)
      obtain ⟨y0, y1, y2, y3, y4, y5, y6, y7, y8⟩ := Hrow.out.at_ Hx.out
      go_region_with (go_at_call 11; refine (Kc _).out.mono ?_; rintro e w4 ⟨rfl, hb4⟩; have hB4 : Below w3.heap.size w3 w4 := Below.trans (Below.refl _ w3).drew hb4; have Hr4 := hide (Hrow.out.below hB4); have U4 := hide (U3.out.below hB4); have Sa4 := hide (Sa3.out.below (hB4.mono U3.out.2.2.2.2.2.2.1)); clear y0 y1 y2 y3 y4 y5 y6 y7 y8 hB4 hb4; obtain ⟨y0, y1, y2, y3, y4, y5, y6, y7, y8⟩ := Hr4.out.at_ Hx.out; have hf4 := Hr4.out.frozen)
      all_goals
        go_wp2_with fail
        go_meet
        have hr5 := Hr4.out.set Hkl.out d
        have hg5 := grown_setCells g d.cells (k * 9) w4
        rw [← chain9 w4 g (k * 9) d] at hr5 hg5
        have hs5 := hr5.slc
        rw [List.length_set, Hlen.out] at hs5
        exact ⟨x0.set k d, U4.out.far hg5 (Nat.le_trans hbase hg1) HU.out, ⟨hs5, hmc, set_wf Hw0.out Hd.out, fun _ ad e => by injection e with e; subst e; exact Nat.le_trans hbase hg1⟩, Sa4.out.far (Nat.le_trans hbase hg1) U4.out.2.2.2.2.2.2.1 hg5⟩
  case rest =>
    obtain ⟨ys, hu, hv, hsa⟩ := hcut
    have U := hide hu
    have V := hide hv
    have Sa := hide hsa
    clear hu hv hsa U3 Sa3 How
    obtain ⟨w4, hw4⟩ : ∃ V : World, V = wc := ⟨_, rfl⟩
    rw [← hw4] at U V Sa ⊢
    clear hw4
    obtain ⟨i, hi, him⟩ := rem_is (p := t) (m := m) Hp.out.2.1
    obtain ⟨-, -, q2, -, -, -, -⟩ := U.out.1
    have hic : i ≤ c4 := by omega
    go_upto_region 11 with (fail)
    go_wp2_with fail
    refine (key_any _ _).mono ?_
    rintro e w5 ⟨rfl, hb5⟩
    obtain ⟨key, hkey⟩ : ∃ q, q = words [0, 41] := ⟨_, rfl⟩
    rw [← hkey]
    have Hkey := hide hkey
    have U5 := hide (U.out.below hb5)
    have V5 := hide (V.out.below hb5)
    have Sa5 := hide (Sa.out.below (hb5.mono U.out.2.2.2.2.2.2.1))
    clear hb5 hkey q2 U V Sa
    obtain ⟨u0, -⟩ := U5.out.2.1.at0
    have hfz := U5.out.2.2.1
    go_upto_region 13 with (fail)
    obtain ⟨fm, hfm⟩ : ∃ q, q = bits .and .i64 c.firm 1 := ⟨_, rfl⟩
    obtain ⟨W, hW⟩ : ∃ V, V = w5.setCell ⟨w.heap.size + 1 + 1, 0, none⟩ (.int .i64 fm) := ⟨_, rfl⟩
    rw [← hfm, ← hW]
    obtain ⟨c', hc'⟩ : ∃ d : Cl, d = { c with firm := fm } := ⟨_, rfl⟩
    have hwc : wfC c' := by rw [hc']; exact ⟨Hp.out.2.2.1, Hp.out.2.2.2⟩
    have hM : MSt w W kd N t tm l0 l1 l2 c' B b o [x0, x1, x2] A3 m c4 ys Aa x0 := by
      rw [hc', hW]
      exact ⟨U5.out.firm fm, V5.out.box HU.out _, Sa5.out.keepAt0 (fun hp ad e o => World.cell?_setCell_other (w := w5) (v := .int .i64 fm) (h := fun e2 => by injection e2 with e2; have := HlowA.out hp ad e; omega)) (Nat.le_refl _)⟩
    have M5 := hide hM
    have Hwc := hide hwc
    clear hM hwc hc' hW hfm U5 V5 Sa5 hfz u0
    obtain ⟨d0, d1, d2, d3, d4, d5, d6, d7, d8⟩ := M5.out.1.2.1.at0
    go_wp2_with fail
    refine (add_any Aa m ca key x0 c' W M5.out.fst (by omega)).mono ?_
    rintro e w7 ⟨hb7, A7, n7, c7, ys7, er7, rfl, hr7, -⟩
    have hn7 : n7 ≤ 13 := by have := appRes_le hr7; omega
    have M7 := hide (M5.out.below hb7)
    have Hr7 := hide hr7
    clear d0 d1 d2 d3 d4 d5 d6 d7 d8 hb7 hr7 M5
    go_upto_region 14 with (fail)
    obtain ⟨w8, hw8⟩ : ∃ V, V = w7.alloc (.cells #[.slice A7 n7 c7, .int .i64 er7] 38) := ⟨_, rfl⟩
    obtain ⟨p0, p1, pb, pz⟩ := pair_cells w7 _ _ w8 hw8
    rw [← hw8]
    obtain ⟨g7, hg7⟩ : ∃ q, q = w7.heap.size := ⟨_, rfl⟩
    rw [← hg7] at p0 p1 ⊢
    have M8 := hide (M7.out.below pb)
    have S8 := hide ((Hr7.out.1.below pb).more pb.size)
    have hg8 : g7 < w8.heap.size := by omega
    have P8 := hide (And.intro p0 (And.intro p1 hg8))
    clear hw8 p0 p1 pb pz hg7 M7 hg8
    obtain ⟨d0, d1, d2, d3, d4, d5, d6, d7, d8⟩ := M8.out.1.2.1.at0
    go_wp2_with fail
    refine (append3_any Aa m ca key x0 c' w8 M8.out.fst (by omega) la).mono ?_
    rintro e w9 ⟨hb9, A9, n9, c9, ys9, er9, rfl, hr9, -⟩
    obtain ⟨rfl, rfl, rfl⟩ := appRes_one Hr7.out hr9
    have M9 := hide (M8.out.below hb9)
    have S9 := hide ((S8.out.below hb9).more hb9.size)
    have T9 := hide hr9.1
    have P9 := hide (And.intro ((hb9.cell (p := ⟨g7, 0, none⟩) P8.out.2.2).trans P8.out.1) (And.intro ((hb9.cell (p := ⟨g7, 1, none⟩) P8.out.2.2).trans P8.out.2.1) (Nat.lt_of_lt_of_le P8.out.2.2 hb9.size)))
    clear d0 d1 d2 d3 d4 d5 d6 d7 d8 hb9 hr9 M8 S8 P8 Hr7
    go_upto_region 15 with (fail)
    obtain ⟨w10, hw10⟩ : ∃ V, V = w9.alloc (.cells #[.slice A9 n7 c9, .int .i64 er7] 38) := ⟨_, rfl⟩
    obtain ⟨q0, q1, pb, pz⟩ := pair_cells w9 _ _ w10 hw10
    rw [← hw10]
    obtain ⟨g9, hg9⟩ : ∃ q, q = w9.heap.size := ⟨_, rfl⟩
    rw [← hg9] at q0 q1 ⊢
    have M10 := hide (M9.out.below pb)
    have S10 := hide ((S9.out.below pb).more pb.size)
    have T10 := hide ((T9.out.below pb).more pb.size)
    have p0 := (pb.cell (p := ⟨g7, 0, none⟩) P9.out.2.2).trans P9.out.1
    have p1 := (pb.cell (p := ⟨g7, 1, none⟩) P9.out.2.2).trans P9.out.2.1
    clear hw10 pb pz hg9 M9 S9 T9 P9
    have hchk0 : chkF key 0 x0 = true := by rw [Hkey.out]; exact (Hchn.out 0 x0 rfl).1.1
    obtain ⟨v1, hv1⟩ : ∃ q : Int, q = if chkF key 0 ys then 0 else 410 := ⟨_, rfl⟩
    obtain ⟨v2, hv2⟩ : ∃ q : Int, q = if chkF key l0 x0 then 0 else 410 := ⟨_, rfl⟩
    have GM := fun p : Wd w10 => hide (M10.out.below p.h)
    obtain ⟨d0, d1, d2, d3, d4, d5, d6, d7, d8⟩ := M10.out.1.2.1.at0
    obtain ⟨-, f1, -, -, f4, -, -⟩ := M10.out.1.1
    have D0 := Wd.cell d0; have D1 := Wd.cell d1; have D2 := Wd.cell d2; have D3 := Wd.cell d3; have D4 := Wd.cell d4; have D5 := Wd.cell d5; have D6 := Wd.cell d6; have D7 := Wd.cell d7; have D8 := Wd.cell d8
    have F1 := Wd.cell f1; have F4 := Wd.cell f4
    have P0 := Wd.cell p0; have P1 := Wd.cell p1; have Q0 := Wd.cell q0; have Q1 := Wd.cell q1
    clear d0 d1 d2 d3 d4 d5 d6 d7 d8 f1 f4 p0 p1 q0 q1
    have Ks := fun p : Wd w10 => hide (same_is (A := A7) (B := A9) (ca := c7) (cb := c9) (n := n7) (w := p.w') (xs := ys7) (ys := ys7) rfl ((S10.out.below p.h).more p.h.size) ((T10.out.below p.h).more p.h.size) (by omega))
    have Kc0 := fun p : Wd w10 => hide (show Calls Try.prog 20 #[.slice Aa m ca, .int .u64 key, .int .i64 0] p.w' fun e w' => e = .returned (.int .i64 0) ∧ Below p.w'.heap.size p.w' w' from by have h := check_any Aa m ca key 0 x0 p.w' (GM p).out.fst (by omega); rw [hchk0] at h; exact h)
    have Kc1 := fun p : Wd w10 => hide (show Calls Try.prog 20 #[.slice A3 m c4, .int .u64 key, .int .i64 0] p.w' fun e w' => e = .returned (.int .i64 v1) ∧ Below p.w'.heap.size p.w' w' from by have h := check_any A3 m c4 key 0 ys p.w' (GM p).out.2.1.1 (by omega); unfold ChkPost at h; rw [← hv1] at h; exact h)
    have Kc2 := fun p : Wd w10 => hide (show Calls Try.prog 21 #[.slice A3 m c4, .int .u64 key, .int .i64 0] p.w' fun e w' => e = .returned (.int .i64 v1) ∧ Below p.w'.heap.size p.w' w' from by have h := check3_any A3 m c4 key 0 ys p.w' (GM p).out.2.1.1 (by omega) hmc; unfold ChkPost at h; rw [← hv1] at h; exact h)
    have Kc3 := fun p : Wd w10 => hide (show Calls Try.prog 20 #[.slice Aa m ca, .int .u64 key, .int .i64 l0] p.w' fun e w' => e = .returned (.int .i64 v2) ∧ Below p.w'.heap.size p.w' w' from by have h := check_any Aa m ca key l0 x0 p.w' (GM p).out.fst (by omega); unfold ChkPost at h; rw [← hv2] at h; exact h)
    have Kc4 := fun p : Wd w10 => hide (show Calls Try.prog 21 #[.slice Aa m ca, .int .u64 key, .int .i64 l0] p.w' fun e w' => e = .returned (.int .i64 v2) ∧ Below p.w'.heap.size p.w' w' from by have h := check3_any Aa m ca key l0 x0 p.w' (GM p).out.fst (by omega) la; unfold ChkPost at h; rw [← hv2] at h; exact h)
    have Kt := fun (k : Int) (p : Wd w10) => hide (tag_any k c' p.w')
    have Ku := fun (k : Int) (p : Wd w10) => hide (tag3_any k c' p.w')
    have Kd := fun (p : Wd w10) => hide (digest_any c' p.w')
    have Ke := fun (p : Wd w10) => hide (digest3_any c' p.w')
    obtain ⟨dg, hdg⟩ : ∃ q, q = digC c' := ⟨_, rfl⟩
    rw [← hdg] at Kd Ke
    have n1 : (er7 != er7) = false := by simp
    have n2 : (dg != dg) = false := by simp
    have n3 : ∀ k, (tagC k c' != tagC k c') = false := fun k => by simp
    have n4 : (v1 != v1) = false := by simp
    have n5 : (v2 != v2) = false := by simp
    clear hchk0 hv1 hv2 hdg GM
    refine wp_region_grew (by as_aux_lemma => kernel_rfl) (by as_aux_lemma => kernel_rfl) ?_
    apply quiet_via
    · as_aux_lemma =>
      iterate 42 (go_big_quiet_step (first
        | (go_at_call 15; exact grew_of (Ks _).out)
        | (go_at_call 16; exact grew_of (Kd _).out)
        | (go_at_call 17; exact grew_of (Ke _).out)
        | (go_at_call 18; exact grew_of (Kt _ _).out)
        | (go_at_call 19; exact grew_of (Ku _ _).out)
        | (go_at_call 20; exact grew_of (Kc0 _).out)))
      iterate 12 (go_big_quiet_step (first
        | (go_at_call 20; exact grew_of (Kc1 _).out)
        | (go_at_call 21; exact grew_of (Kc2 _).out)))
      iterate 9 (go_big_quiet_step (first
        | (go_at_call 20; exact grew_of (Kc3 _).out)
        | (go_at_call 21; exact grew_of (Kc4 _).out)))
      exact wpQuiet_nil (Eq.refl _)
    intro w11 hw11
    obtain ⟨⟨w11, hb11⟩, rfl⟩ := hw11
    have M11 := hide (M10.out.below hb11)
    clear n1 n2 n3 n4 n5 Ks Kd Ke Kt Ku Kc0 Kc1 Kc2 Kc3 Kc4 D0 D1 D2 D3 D4 D5 D6 D7 D8 F1 F4 P0 P1 Q0 Q1 M10 S10 T10 hb11
    go_upto_region 17 with (fail)
    go_upto_region 18 with (fail)
    obtain ⟨w12, hw12⟩ : ∃ V, V = w11.alloc (.cells #[.slice Aa m ca, .slice A3 m c4, .slice A3 i c4] 33) := ⟨_, rfl⟩
    have hb12 : Below w11.heap.size w11 w12 := by rw [hw12]; exact (Below.refl _ _).alloc (Nat.le_refl _) _
    have ht12 := TB.start w11 Aa A3 m ca c4 i
    rw [← hw12] at ht12 ⊢
    obtain ⟨g12, hg12⟩ : ∃ q, q = w11.heap.size := ⟨_, rfl⟩
    rw [← hg12] at ht12 ⊢
    have M12 := hide (And.intro (M11.out.below hb12) ht12)
    clear hw12 hb12 ht12 hg12 M11
    go_wp2_with fail
    go_loopg [17] 3 (fun gk si wr => ∃ k : Nat, k + gk = 3 ∧ si = .int .i64 (k : Int) ∧ MSt w wr kd N t tm l0 l1 l2 c' B b o [x0, x1, x2] A3 m c4 ys Aa x0 ∧ TB wr g12 Aa A3 m ca c4 i)
    case atStart => exact ⟨0, rfl, rfl, M12.out⟩
    case round =>
      rename_i J2 K2 a3 a2
      obtain ⟨k, hk, rfl, hM⟩ := hrel
      clear M12
      have M := hide hM; clear hM
      by_cases hk3 : k < 3
      · obtain ⟨Ax, nx, cx, zs, r0, hnx, hsx⟩ := M.out.2.get M.out.1 him hk3
        have Sx := hide hsx; clear hsx
        have t1 : (k : Int) < 3 := by omega
        have t2 : (0 : Int) ≤ (k : Int) := by omega
        go_wp2_with fail
        refine (merge_any Aa Ax m nx ca cx x0 zs _ M.out.1.fst (Sx.out _ (Below.refl _ _)) (by omega) (by omega)).mono ?_
        rintro e w13 ⟨Pm, km, cm, er, rfl, hmi, hb13⟩
        have Hmi := hide hmi
        go_upto_region 22 with (fail)
        obtain ⟨w14, hw14⟩ : ∃ V, V = w13.alloc (.cells #[.slice Pm km cm, .int .i64 er] 38) := ⟨_, rfl⟩
        obtain ⟨p0, p1, pb, pz⟩ := pair_cells w13 _ _ w14 hw14
        rw [← hw14]
        have hb14 : Below wr.heap.size wr w14 := hb13.trans (pb.mono hb13.size)
        obtain ⟨g14, hg14⟩ : ∃ q, q = w13.heap.size := ⟨_, rfl⟩
        rw [← hg14] at p0 p1 ⊢
        have hz14 : g14 < w14.heap.size := by omega
        have r1 := (hb14.cell (p := ⟨g12, k, none⟩) M.out.2.2.2.2).trans r0
        have M14 := hide (And.intro (M.out.1.below hb14) (M.out.2.below hb14))
        have Sx14 := hide (fun V (hV : Below w14.heap.size w14 V) => Sx.out V (hb14.trans (hV.mono hb14.size)))
        have P14 := hide (And.intro p0 (And.intro p1 hz14))
        clear hw14 p0 p1 pb pz hg14 hb13 hb14 hz14 hmi r0 M Sx
        go_wp2_with fail
        refine (mergein_any Aa Ax m nx ca cx x0 zs _ M14.out.1.fst (Sx14.out _ (Below.refl _ _)) (by omega) (by omega)).mono ?_
        rintro e w15 ⟨Pn, kn, cn, er2, rfl, hmi, hb15⟩
        obtain ⟨rfl, rfl, rfl, rfl⟩ := mergeIs_one Hmi.out hmi
        go_upto_region 23 with (fail)
        obtain ⟨w16, hw16⟩ : ∃ V, V = w15.alloc (.cells #[.slice Pn kn cn, .int .i64 er2] 38) := ⟨_, rfl⟩
        obtain ⟨q0, q1, pb, pz⟩ := pair_cells w15 _ _ w16 hw16
        rw [← hw16]
        have hb16 : Below w14.heap.size w14 w16 := hb15.trans (pb.mono hb15.size)
        obtain ⟨g16, hg16⟩ : ∃ q, q = w15.heap.size := ⟨_, rfl⟩
        rw [← hg16] at q0 q1 ⊢
        have r2 := (hb16.cell (p := ⟨g12, k, none⟩) M14.out.2.2.2.2).trans r1
        have p0 := (hb16.cell (p := ⟨g14, 0, none⟩) P14.out.2.2).trans P14.out.1
        have p1 := (hb16.cell (p := ⟨g14, 1, none⟩) P14.out.2.2).trans P14.out.2.1
        have M16 := hide (And.intro (M14.out.1.below hb16) (M14.out.2.below hb16))
        have Sx16 := hide (fun V (hV : Below w16.heap.size w16 V) => Sx14.out V (hb16.trans (hV.mono hb16.size)))
        obtain ⟨rs, hkn, hrs⟩ := mergeIs_sl hmi
        have P0 := Wd.cell p0; have P1 := Wd.cell p1; have Q0 := Wd.cell q0; have Q1 := Wd.cell q1; have R2 := Wd.cell r2
        have Ks := fun p : Wd w16 => hide (same_is (A := Pn) (B := Pn) (ca := cn) (cb := cn) (n := kn) (w := p.w') (xs := rs) (ys := rs) rfl (hrs p.w' (M16.out.1.below p.h).fst (Sx16.out _ p.h)) (hrs p.w' (M16.out.1.below p.h).fst (Sx16.out _ p.h)) (by omega))
        have Kf := fun p : Wd w16 => hide (forked_any Ax A3 nx m cx c4 zs ys p.w' (Sx16.out _ p.h) (M16.out.1.below p.h).2.1.1 (by omega) (by omega))
        have Kg := fun p : Wd w16 => hide (forkin_any Ax A3 nx m cx c4 zs ys p.w' (Sx16.out _ p.h) (M16.out.1.below p.h).2.1.1 (by omega) (by omega))
        have n1 : (er2 != er2) = false := by simp
        have n2 := neq_fork (orZero (forkF zs ys)) (forkF zs ys).isSome
        clear hw16 p0 p1 q0 q1 pb pz hg16 hb15 hb16 hmi r1 r2 M14 Sx14 P14 Hmi Sx16
        refine wp_region_grew (by as_aux_lemma => kernel_rfl) (by as_aux_lemma => kernel_rfl) ?_
        iterate 28 (go_big_quiet_step (first
          | (go_at_call 15; exact grew_of (Ks _).out)
          | (go_at_call 24; exact grew_of (Kf _).out)
          | (go_at_call 25; exact grew_of (Kg _).out)))
        refine wpQuiet_nil ?_
        intro w17 hw17
        obtain ⟨⟨w17, hb17⟩, rfl⟩ := hw17
        have M17 := hide (And.intro (M16.out.1.below hb17) (M16.out.2.below hb17))
        clear n1 n2 Ks Kf Kg P0 P1 Q0 Q1 R2 M16 hb17
        go_wp2_with fail
        go_roundg (gk - 1)
        case measure => omega
        case rel => exact ⟨k + 1, by omega, by go_num, M17.out⟩
      · have hke : k = 3 := by omega
        subst hke
        have M3 := hide M.out.1
        clear M
        go_upto_region 25 with (fail)
        have hwf3 : ∀ xs ∈ [x0, x1, x2], ∀ c ∈ xs, wfC c := fun xs hx c hc => by
          obtain ⟨k, hk⟩ := List.getElem?_of_mem hx
          obtain ⟨j, hj⟩ := List.getElem?_of_mem hc
          exact okF_seq (okAt_parts (chk_at (Hchn.out k xs hk).1.1 hj)).1
        have hl12 : ∀ xs ∈ [x0, x1, x2], xs.length ≤ 12 := fun xs hx => by
          obtain ⟨k, hk⟩ := List.getElem?_of_mem hx
          exact (Hchn.out k xs hk).2
        obtain ⟨tot, htot⟩ : ∃ q, q = (forcedL [x0, x1, x2] tm 3).flatten.length := ⟨_, rfl⟩
        have htl : tot < 40 := by have := forced_le [x0, x1, x2] tm 3 rfl hl12; omega
        obtain ⟨now, hnow⟩ : ∃ l, l = insF (forcedL [x0, x1, x2] tm 3).flatten := ⟨_, rfl⟩
        have Kat := hide (fun (V : World) (hV : MSt w V kd N t tm l0 l1 l2 c' B b o [x0, x1, x2] A3 m c4 ys Aa x0) => show Calls Try.prog 30 #[.slice (some ⟨b, o, none⟩) 3 c3, .int .i64 tm] V (OwnPost V.heap.size V tot now) from by
          rw [hnow]
          exact at_any (some ⟨b, o, none⟩) 3 c3 tm [x0, x1, x2] V (hV.1.2.2.2.2.2.1.slS.more hV.1.2.2.2.2.2.2.1) (by omega) hwf3 (fun xs hx => Nat.le_trans (hl12 xs hx) (by omega)) tot htot.symm htl)
        have Kar := hide (fun (V : World) (hV : MSt w V kd N t tm l0 l1 l2 c' B b o [x0, x1, x2] A3 m c4 ys Aa x0) => show Calls Try.prog 31 #[.slice (some ⟨b, o, none⟩) 3 c3, .int .i64 tm] V (OwnPost V.heap.size V tot now) from by
          rw [hnow]
          exact atR_any (some ⟨b, o, none⟩) 3 c3 tm [x0, x1, x2] V (hV.1.2.2.2.2.2.1.slS.more hV.1.2.2.2.2.2.2.1) (by omega) (fun xs hx => Nat.le_trans (hl12 xs hx) (by omega)) tot htot.symm htl)
        have Hl12 := hide hl12
        have Hwf3 := hide hwf3
        clear hwf3 hl12 htot hnow
        obtain ⟨-, -, -, f3, f4, f5, f6⟩ := M3.out.1.1
        go_wp2_with fail
        refine (latest_of (some ⟨b, o, none⟩) 3 c3 tot tm l0 l1 l2 now _ (by omega) (fun V hV => Kat.out V (M3.out.below hV))).mono ?_
        rintro e w18 ⟨rfl, hb18⟩
        have M18 := hide (M3.out.below hb18)
        obtain ⟨x, hx⟩ : ∃ x, x = (latestF l0 l1 l2 now).getD zeroC := ⟨_, rfl⟩
        obtain ⟨fl, hfl⟩ : ∃ q, q = (latestF l0 l1 l2 now).isSome := ⟨_, rfl⟩
        rw [← hx, ← hfl]
        have Hx := hide (And.intro hx hfl)
        clear hx hfl hb18 f3 f4 f5 f6 M3
        go_upto_region 26 with (fail)
        obtain ⟨w19, hw19⟩ : ∃ V, V = w18.alloc (.cells (#[.int .i64 x.firm, .int .i64 x.seq, .int .i64 x.time, .int .i64 x.kind, .int .i64 x.a, .int .u64 x.ref, .int .u64 x.aux, .int .u64 x.prev, .int .u64 x.tag]) 29) := ⟨_, rfl⟩
        have hb19 : Below w18.heap.size w18 w19 := by rw [hw19]; exact (Below.refl _ _).alloc (Nat.le_refl _) _
        have hc19 : IsCl w19 w18.heap.size 0 x := by rw [hw19]; exact IsCl.block (heap_alloc_new w18 _)
        have hz19 : w18.heap.size < w19.heap.size := by rw [hw19]; simp
        rw [← hw19]
        obtain ⟨gx, hgx⟩ : ∃ q, q = w18.heap.size := ⟨_, rfl⟩
        rw [← hgx] at hc19 hz19 ⊢
        have M19 := hide (M18.out.below hb19)
        have X19 := hide (And.intro hc19 hz19)
        clear hb19 hc19 hz19 hw19 hgx M18
        obtain ⟨A1', k1, p1, s1, -, -⟩ := M19.out.1.head (i := 1) (by omega) rfl
        have P1 := hide p1
        have S1 := hide (s1.more M19.out.1.2.2.2.2.2.2.1)
        have Qc := hide (And.intro M19.out.1.2.1 M19.out.1.2.2.2.1)
        clear p1 s1
        go_cut [22] (fun v wx => ∃ A5, v = .slice A5 4 4 ∧ SlS wx wx.heap.size A5 4 [ys, x1, ys, [c']] ∧ Below w19.heap.size w19 wx)
        case first =>
          go_region_held3 (fun w' => w'.cell? ⟨w.heap.size + 1 + 1, 0, none⟩ = some (.int .i64 c'.firm) ∧ w'.cell? ⟨w.heap.size + 1 + 1, 1, none⟩ = some (.int .i64 c'.seq) ∧ w'.cell? ⟨w.heap.size + 1 + 1, 2, none⟩ = some (.int .i64 c'.time) ∧ w'.cell? ⟨w.heap.size + 1 + 1, 3, none⟩ = some (.int .i64 c'.kind) ∧ w'.cell? ⟨w.heap.size + 1 + 1, 4, none⟩ = some (.int .i64 c'.a) ∧ w'.cell? ⟨w.heap.size + 1 + 1, 5, none⟩ = some (.int .u64 c'.ref) ∧ w'.cell? ⟨w.heap.size + 1 + 1, 6, none⟩ = some (.int .u64 c'.aux) ∧ w'.cell? ⟨w.heap.size + 1 + 1, 7, none⟩ = some (.int .u64 c'.prev) ∧ w'.cell? ⟨w.heap.size + 1 + 1, 8, none⟩ = some (.int .u64 c'.tag) ∧ w'.cell? ⟨b, o + 1, none⟩ = some (.slice A1' x1.length k1) ∧ Below w19.heap.size w19 w')
            ((go_split_ands; refine keepU ?_ Qc.out.1 Qc.out.2 P1.out; first | exact (Below.refl _ _).drew | assumption | exact below_one w19 _ | exact below_two w19 _ _))
            (fail)
          all_goals
            go_wp2_with fail
            go_meet
            refine ⟨_, rfl, (odd_sl c' M19.out.2.1.1 S1.out).more ?_, below_two w19 _ _⟩
            exact Nat.le_of_eq (three_sizes w19 _ _).2.symm
        case rest =>
          obtain ⟨A5, rfl, hodd, hb20⟩ := hcut
          obtain ⟨w20, hw20⟩ : ∃ V : World, V = wc := ⟨_, rfl⟩
          rw [← hw20] at hodd hb20 ⊢
          clear hw20
          have M20 := hide (M19.out.below hb20)
          have X20 := hide (And.intro (X19.out.1.keep (w' := w20) (fun o => hb20.cell (p := ⟨gx, o, none⟩) X19.out.2)) (Nat.lt_of_lt_of_le X19.out.2 hb20.size))
          have C20 := hide M20.out.1.1.2.2.2
          have hx1 : x1.length ≤ 12 := Hl12.out x1 (by simp)
          have hyl : ys.length = m := M20.out.2.1.1.1
          have hwo : ∀ xs ∈ [ys, x1, ys, [c']], ∀ c ∈ xs, wfC c := fun xs hx => by
            simp only [List.mem_cons, List.not_mem_nil, or_false] at hx
            rcases hx with rfl | rfl | rfl | rfl
            · exact M20.out.2.1.2.2.1
            · exact Hwf3.out _ (by simp)
            · exact M20.out.2.1.2.2.1
            · intro c hc
              simp only [List.mem_cons, List.not_mem_nil, or_false] at hc
              rw [hc]
              exact Hwc.out
          have hlo : ∀ xs ∈ [ys, x1, ys, [c']], xs.length ≤ 40 := fun xs hx => by
            simp only [List.mem_cons, List.not_mem_nil, or_false] at hx
            rcases hx with rfl | rfl | rfl | rfl <;> (try simp only [List.length_cons, List.length_nil]) <;> omega
          obtain ⟨tot2, htot2⟩ : ∃ q, q = [ys, x1, ys, [c']].flatten.length := ⟨_, rfl⟩
          have ht2 : tot2 < 40 := by rw [htot2]; simp only [List.flatten_cons, List.flatten_nil, List.length_append, List.length_cons, List.length_nil]; omega
          obtain ⟨tot3, htot3⟩ : ∃ q, q = (forcedL [ys, x1, ys, [c']] tm 4).flatten.length := ⟨_, rfl⟩
          have ht3 : tot3 < 40 := by have := forced4 ys x1 ys [c'] tm; simp only [List.length_cons, List.length_nil] at this; omega
          obtain ⟨O2, hO2⟩ : ∃ q, q = insF [ys, x1, ys, [c']].flatten := ⟨_, rfl⟩
          obtain ⟨O3, hO3⟩ : ∃ q, q = insF (forcedL [ys, x1, ys, [c']] tm 4).flatten := ⟨_, rfl⟩
          have K27 := hide (fun (V : World) (hV : Below w20.heap.size w20 V) => show Calls Try.prog 27 #[.slice (some ⟨b, o, none⟩) 3 c3, .int .i64 tm, .int .i64 l0, .int .i64 l1, .int .i64 l2] V (fun e w' => e = .returned (.agg #[.int .i64 x.firm, .int .i64 x.seq, .int .i64 x.time, .int .i64 x.kind, .int .i64 x.a, .int .u64 x.ref, .int .u64 x.aux, .int .u64 x.prev, .int .u64 x.tag, .bool fl]) ∧ Below w20.heap.size w20 w') from by
            have h := latestin_of (some ⟨b, o, none⟩) 3 c3 tot tm l0 l1 l2 now V (by omega) (fun U hU => Kar.out U (M20.out.below (hV.trans (hU.mono hV.size))))
            unfold LinPost at h
            rw [← Hx.out.1, ← Hx.out.2] at h
            exact h.mono fun _ _ ⟨h1, h2⟩ => ⟨h1, hV.trans (h2.mono hV.size)⟩)
          have K28 := hide (fun (V : World) (hV : Below w20.heap.size w20 V) => show Calls Try.prog 28 #[.slice A5 4 4] V (OwB w20 V tot2 O2) from by
            rw [hO2]; exact OwB.of hV (order_any A5 4 4 [ys, x1, ys, [c']] V ((hodd.below hV).more hV.size) (by omega) tot2 htot2.symm ht2))
          have K29 := hide (fun (V : World) (hV : Below w20.heap.size w20 V) => show Calls Try.prog 29 #[.slice A5 4 4] V (OwB w20 V tot2 O2) from by
            rw [hO2]; exact OwB.of hV (orderR_any A5 4 4 [ys, x1, ys, [c']] V ((hodd.below hV).more hV.size) (by omega) tot2 htot2.symm ht2))
          have K30 := hide (fun (V : World) (hV : Below w20.heap.size w20 V) => show Calls Try.prog 30 #[.slice A5 4 4, .int .i64 tm] V (OwB w20 V tot3 O3) from by
            rw [hO3]; exact OwB.of hV (at_any A5 4 4 tm [ys, x1, ys, [c']] V ((hodd.below hV).more hV.size) (by omega) hwo (fun xs hx => Nat.le_trans (hlo xs hx) (by omega)) tot3 htot3.symm ht3))
          have K31 := hide (fun (V : World) (hV : Below w20.heap.size w20 V) => show Calls Try.prog 31 #[.slice A5 4 4, .int .i64 tm] V (OwB w20 V tot3 O3) from by
            rw [hO3]; exact OwB.of hV (atR_any A5 4 4 tm [ys, x1, ys, [c']] V ((hodd.below hV).more hV.size) (by omega) hlo tot3 htot3.symm ht3))
          have J30 := hide (fun (V : World) (hV : Below w20.heap.size w20 V) => OwB.of hV (Kat.out V (M20.out.below hV)))
          have J31 := hide (fun (V : World) (hV : Below w20.heap.size w20 V) => OwB.of hV (Kar.out V (M20.out.below hV)))
          have hM20 := M20.out.1.2.2.2.2.1
          have HB := hide hM20
          have El := eql_lin x fl
          have Ht23 := hide (And.intro ht2 (And.intro ht3 htl))
          clear hwo hlo htot2 ht2 htot3 ht3 hO2 hO3 hodd hb20 hyl hx1 M19 M20 X19 P1 S1 Qc Kat Kar Hx hM20 Hwf3 Hl12 htl
          go_upto_region 27 with (fail)
          rename_i K1 a1 KK aKK
          obtain ⟨Qg, hQg⟩ : ∃ Q, Q = Qf := ⟨_, rfl⟩
          have hQ2 : Qg = bodyPost Try.prog Try.f3 fun e w' => e = Ending.returned (Value.bool true) ∧ Below w.heap.size w w' := hQg
          rw [← hQg] at aKK ⊢
          clear hQg
          clear hBw HU HlowA Hchn Hl Hc3 Hm Hw0 hbB hm0 la hbase hmc Hlen hi him hic Hkey Hwc hn7 hk hk3 Hp a1 a2 a3
          clear Qf
          revert A0 A1 A2 n0 n1 n2 c0 c1 c2 kd N t tm l0 l1 l2 c w b o c3 Aa ca m A3 c4 u11 i key g7 g9 g12 u6 u18 u19 gx x fl A5 w20 tot tot2 tot3 O2 O3 now Qg KK u23 u24 u25 u26 u27 u28 u29 u30 u31 u32 u33 u34 u35 u36 u37 u38 u39 u40 u41 u42 u43 u44 u45 u46 u47 u48 u49 u50 u51 u52 u53 u54 u55 u56 u57 u58 u59 u60 u61 u62 u63 u64 u65 u66 u67 u68 u69 u70 u71 u72 u73 u74 u75 u76 u77 u78 u79 u80 u81 u82 u83 u84 u85 u86 u87 u88 u89 u90 u91 u92 u93 u94 u95 u96 u97 u98 u99 u100 u101 u102 u103 u104 u105 u106 u107 u108 u109 u110 u111 u112 u113 u114 u115 u116 u117 u118 u119 u120 u121 u122 u123 u124 u125 u126 u127 u128 u129 u130 u131 u132 u133 u134 u135 u136 u137 u138 u139 u140 u141 u142 u143 u144 u145 u146 u147 u148 u149 u150 u151 u152 u153 u154 u155 u156 u157 u158 u159 u160 u161 u162 u163 u164 u165 u166 u167 u168 u169 u170 u171 u172 u173 u174 u175 u176 u177 u178 u179 u180 u181 u182 u183 u184 u185 u186 u187 u188 u189 u190 u191 u192 u193 u194 u195 u196 u197 u198 u199 u200 u201 u202 u203 u204 u205 u206 u207 u208 u209 u210 u211 u212 u213 u214 u215 u216 u217 u218 u219 u220 u221 u222 u223 u224 u225 u226 u227 u228 u229 u230 u231 u232 u233 u234 u235 u236 u237 u238 u239 u240 u241 u242 u243 u244 u245 u246 u247 u248 u249 u250 u251 u252 u253 u254 u255 u256 u257 u258 u259 u260
          exact hG.out⟩
end Go.Proofs.Ythpbjceajnaokaa
