/- The argument opened to cells, and the statement closed behind its walk. No condition. -/
import Derived.Test.YthhfakkfdohcpaaGreatM34
import Derived.Test.YthhfakkfdohcpaaGreatRows
import Derived.ProofKit
import Derived.Deep.Slices
import Derived.Deep.Fields
import Derived.ChangeSame
import Derived.Carry
import Derived.OpenShut
namespace Go.Proofs.YthhfakkfdohcpaaGreat
open Go.ChangeShapes Go.WideShapes Go.ChangeAt Go.RowKit Go.Deep

theorem ownHere : ownKnob Tryz.prog.godebug = none := by kernel_rfl
theorem laidHere : laidOutB Tryz.prog = true := by kernel_rfl
theorem ps27 : Tryz.prog.cellsOf 27 = 2 := by kernel_rfl
theorem ps5 : Tryz.prog.cellsOf 5 = 1 := by kernel_rfl

section
variable {H : Type} {enc : TypeId × Value → H} {w : World} {base : Nat} {spare : Nat → Bool} {held : Bool}
theorem int_at {k : Nat} {n : Nat} {t : TypeId} {kd : IntKind} {cs : List Value} {y : Option (DataW H × List MemPlace)} (ht : Tryz.prog.underlying t = some (.int kd)) (hk : k < cs.length) (hy : y.isSome = true)
    (h : DataW.trod enc Tryz.prog w base spare held n t ((cs.drop k).take 1) = y) : ∃ v : Int, cs[k]? = some (.int kd v) ∧ (Lit.int kd v).wf = true := by
  obtain ⟨z, rfl⟩ := Option.isSome_iff_exists.1 hy
  obtain ⟨v, h1, _, h3⟩ := DataW.trod_int ht h
  rw [List.drop_eq_getElem_cons hk] at h1
  simp only [List.take_succ_cons, List.take_zero, List.cons.injEq, and_true] at h1
  exact ⟨v, by rw [List.getElem?_eq_getElem hk, h1], h3⟩
theorem some_at {α : Type} {xs : List α} {i n : Nat} (h : xs.length = n) (hi : i < n) : (xs[i]?).isSome = true := by
  rw [List.getElem?_eq_getElem (by omega)]; rfl
set_option maxRecDepth 100000 in
theorem two_cells {cs : List Value} {fuel : Nat} {x : DataW H × List MemPlace} (h : DataW.trod enc Tryz.prog w base spare held fuel 27 cs = some x) :
    ∃ x0 x1 : Int, cs = [.int .u8 x0, .int .u8 x1] ∧ (Lit.int .u8 x0).wf = true ∧ (Lit.int .u8 x1).wf = true := by
  obtain ⟨ys, m, _, _, hl, hylen, hg⟩ := DataW.trod_array Tryz.underlying27 h
  rw [ps27] at hl
  have g0 : DataW.trod enc Tryz.prog w base spare held m 5 ((cs.drop (0 * Tryz.prog.cellsOf 5)).take (Tryz.prog.cellsOf 5)) = ys[0]? := hg 0 (by decide)
  rw [ps5] at g0
  have g1 : DataW.trod enc Tryz.prog w base spare held m 5 ((cs.drop (1 * Tryz.prog.cellsOf 5)).take (Tryz.prog.cellsOf 5)) = ys[1]? := hg 1 (by decide)
  rw [ps5] at g1
  obtain ⟨v0, e0, w0⟩ := int_at Tryz.underlying5 (by omega) (some_at hylen (by decide)) g0
  obtain ⟨v1, e1, w1⟩ := int_at Tryz.underlying5 (by omega) (some_at hylen (by decide)) g1
  refine ⟨v0, v1, List.ext_getElem? fun i => ?_, w0, w1⟩
  rcases i with _ | _ | i
  · exact e0
  · exact e1
  · rw [List.getElem?_eq_none (by omega)]; rfl
theorem u8_bd {x : Int} (h : (Lit.int .u8 x).wf = true) : 0 ≤ x ∧ x < 256 := by
  have e1 : IntKind.u8.min = 0 := by decide
  have e2 : IntKind.u8.max = 255 := by decide
  simp only [Lit.wf, e1, e2, Bool.and_eq_true, decide_eq_true_eq] at h
  omega
theorem add_more (a : Addr) (n k : Nat) : a.add (n + k) = (a.add n).add k := by
  unfold Addr.add
  by_cases hn : n = 0
  · subst hn
    by_cases hk : k = 0
    · subst hk; simp
    · simp [hk]
  · by_cases hk : k = 0
    · subst hk; simp [hn]
    · simp [hn, hk, Nat.add_assoc]
theorem bytes_of {fuel : Nat} {A : Option Addr} {n cap : Nat} {x : DataW H × List MemPlace} (h : DataW.trod enc Tryz.prog w base spare held fuel 22 [.slice A n cap] = some x) : BytesAt w w.heap.size A n := by
  intro hn
  rcases open_slice Tryz.underlying22 h with ⟨h0, _⟩ | ⟨a, len, cap', m, k, D, Pl, hcs, hb, hl, hm, hmm, hx, hi⟩
  · simp only [List.cons.injEq, Value.slice.injEq, and_true] at h0
    omega
  · simp only [List.cons.injEq, Value.slice.injEq, and_true] at hcs
    obtain ⟨rfl, rfl, rfl⟩ := hcs
    have hlm : n ≤ m := by rw [hmm]; split <;> omega
    have hat : ∀ i, i < n → ∃ x0 x1 : Int, (w.cell? (a.add (i * 2 + 0)) = some (.int .u8 x0) ∧ w.cell? (a.add (i * 2 + 1)) = some (.int .u8 x1)) ∧ ((0 ≤ x0 ∧ x0 < 256) ∧ (0 ≤ x1 ∧ x1 < 256)) := by
      intro i hin
      obtain ⟨cs', hc, ht⟩ := hi i (by omega)
      rw [ps27] at hc
      obtain ⟨_, hlen, hg⟩ := World.cells?_some hc
      obtain ⟨x0, x1, rfl, w0, w1⟩ := two_cells ht
      refine ⟨x0, x1, ⟨?_, ?_⟩, u8_bd w0, u8_bd w1⟩
      · exact ((add_more a (i * 2) 0).symm ▸ hg 0 (by decide))
      · exact ((add_more a (i * 2) 1).symm ▸ hg 1 (by decide))
    obtain ⟨b, off, sub⟩ := a
    obtain ⟨x0, x1, ⟨c0, _⟩, _⟩ := hat 0 hn
    have hlt := World.block_lt_of_cell? w _ c0
    cases sub with
    | some z =>
      have : w.cell? ⟨b, off, some z⟩ = none := by unfold World.cell?; split <;> simp
      rw [show (⟨b, off, some z⟩ : Addr).add (0 * 2 + 0) = ⟨b, off, some z⟩ from rfl, this] at c0
      cases c0
    | none =>
      have hadd : ∀ j, (⟨b, off, none⟩ : Addr).add j = ⟨b, off + j, none⟩ := fun j => by
        unfold Addr.add
        by_cases hj : j = 0
        · subst hj; rfl
        · rw [if_neg hj]
      refine ⟨b, off, rfl, by rw [hadd] at hlt; exact hlt, fun k hk => ?_⟩
      obtain ⟨x, y, ⟨h1, h2⟩, hx, hy⟩ := hat k hk
      simp only [hadd, Nat.add_zero, ← Nat.add_assoc] at h1 h2
      refine ⟨x.toNat, y.toNat, ?_, ?_, by omega, by omega⟩
      · rw [h1, Int.toNat_of_nonneg hx.1]
      · rw [h2, Int.toNat_of_nonneg hy.1]
theorem trodAll_below {ts : List TypeId} (hts : ∀ t ∈ ts, Tryz.prog.readableRec t = true ∧ t < Tryz.prog.types.size) {W W' : World} (hb : Below W.heap.size W W') :
    ∀ {vs : List Value} {ds : List (DataW H)} {ps : List MemPlace}, DataW.TrodAll enc Tryz.prog W 0 (fun _ => true) true ts vs ds ps → (∀ x ∈ ps, x.block < W.heap.size) →
      DataW.TrodAll enc Tryz.prog W' 0 (fun b => decide (b < W.heap.size)) true ts vs ds ps := by
  induction ts with
  | nil =>
    intro vs ds ps h _
    cases vs <;> cases ds <;> simp_all [DataW.TrodAll]
  | cons t ts ih =>
    intro vs ds ps h hlt
    cases vs with
    | nil => simp [DataW.TrodAll] at h
    | cons v vs =>
      cases ds with
      | nil => simp [DataW.TrodAll] at h
      | cons d ds =>
        obtain ⟨p, q, h1, h2, rfl⟩ := h
        refine ⟨p, q, ?_, ih (fun t ht => hts t (List.mem_cons_of_mem _ ht)) h2 (fun x hx => hlt x (List.mem_append_right _ hx)), rfl⟩
        exact Below.trod laidHere (hts t (List.mem_cons_self ..)).1 (hts t (List.mem_cons_self ..)).2 h1 hb (fun x hx => hlt x (List.mem_append_left _ hx))
theorem law_post {f : Func} {s : ChangeSpec} {W W' : World} {args : Array Value} {ds : List (DataW H)} {p : List MemPlace} (hW : DataW.Whole enc Tryz.prog f.params.toList s.vars false W args.toList ds [] p) (hv : s.vars = [])
    (hfn : s.fn H (ds ++ []) = { results := [.lit (.bool true)], args := ds }) (hres : f.resultTypes = #[4]) (hts : ∀ t ∈ f.params.toList, Tryz.prog.readableRec t = true ∧ t < Tryz.prog.types.size) (hb : Below W.heap.size W W') :
    s.post enc Tryz.prog f false true false false W args (.bool true) W' := by
  have hlt : ∀ x ∈ p, x.block < W.heap.size := fun x hx => hW.lt x hx
  obtain ⟨pa, pv, hA, hV, rfl, _, _⟩ := id hW
  rw [hv] at hV
  have hpv : pv = [] := hV
  subst hpv
  rw [List.append_nil] at hlt
  refine ⟨ds, [], pa ++ [], [], pa, [], hW, ?_, ?_, ?_, hb.frame _, fun h => by cases h⟩
  · rw [hfn, hres]
    exact trodAll_mk1 (shut_bool Tryz.underlying4 _)
  · rw [hfn]
    exact trodAll_below hts hb hA hlt
  · rw [hfn, hv]
    rfl
end
end Go.Proofs.YthhfakkfdohcpaaGreat
