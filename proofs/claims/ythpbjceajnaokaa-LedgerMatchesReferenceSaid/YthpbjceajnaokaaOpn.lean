/- Arguments opened to cells, and a law's statement closed behind its walk. No condition. -/
import Derived.Test.YthpbjceajnaokaaExa
import Derived.ProofKit
import Derived.Deep.Slices
import Derived.Deep.Fields
import Derived.ChangeSame
import Derived.Carry
import Derived.OpenShut
namespace Go.Proofs.Ythpbjceajnaokaa
open Go.ChangeShapes Go.WideShapes Go.ChangeAt Go.RowKit Go.Deep

theorem Try.ownHere : ownKnob Try.prog.godebug = none := by kernel_rfl
theorem Try.laidHere : laidOutB Try.prog = true := by kernel_rfl
theorem ps58 : Try.prog.cellsOf 58 = 4 := by kernel_rfl
theorem ps56 : Try.prog.cellsOf 56 = 4 := by kernel_rfl
theorem ps5 : Try.prog.cellsOf 5 = 1 := by kernel_rfl
theorem ps3 : Try.prog.cellsOf 3 = 1 := by kernel_rfl
theorem ps27 : Try.prog.cellsOf 27 = 1 := by kernel_rfl
theorem ps29 : Try.prog.cellsOf 29 = 9 := by kernel_rfl

section
variable {H : Type} {enc : TypeId × Value → H} {w : World} {base : Nat} {spare : Nat → Bool} {held : Bool}
theorem int_at {k : Nat} {n : Nat} {t : TypeId} {kd : IntKind} {cs : List Value} {y : Option (DataW H × List MemPlace)} (ht : Try.prog.underlying t = some (.int kd)) (hk : k < cs.length) (hy : y.isSome = true)
    (h : DataW.trod enc Try.prog w base spare held n t ((cs.drop k).take 1) = y) : ∃ v : Int, cs[k]? = some (.int kd v) ∧ (Lit.int kd v).wf = true := by
  obtain ⟨z, rfl⟩ := Option.isSome_iff_exists.1 hy
  obtain ⟨v, h1, _, h3⟩ := DataW.trod_int ht h
  rw [List.drop_eq_getElem_cons hk] at h1
  simp only [List.take_succ_cons, List.take_zero, List.cons.injEq, and_true] at h1
  exact ⟨v, by rw [List.getElem?_eq_getElem hk, h1], h3⟩
theorem some_at {α : Type} {xs : List α} {i n : Nat} (h : xs.length = n) (hi : i < n) : (xs[i]?).isSome = true := by
  rw [List.getElem?_eq_getElem (by omega)]; rfl
theorem claim_cells {cs : List Value} {fuel : Nat} {x : DataW H × List MemPlace} (h : DataW.trod enc Try.prog w base spare held fuel 29 cs = some x) : ∃ c : Cl, cs = c.cells := by
  obtain ⟨xs, n, _, _, hl, hlen, hf⟩ := DataW.trod_struct Try.underlying29 h
  rw [ps29] at hl
  have h0 : DataW.trod enc Try.prog w base spare held n 3 ((cs.drop 0).take (Try.prog.cellsOf 3)) = xs[0]? := hf 0 _ rfl
  rw [ps3] at h0
  have h1 : DataW.trod enc Try.prog w base spare held n 3 ((cs.drop 1).take (Try.prog.cellsOf 3)) = xs[1]? := hf 1 _ rfl
  rw [ps3] at h1
  have h2 : DataW.trod enc Try.prog w base spare held n 3 ((cs.drop 2).take (Try.prog.cellsOf 3)) = xs[2]? := hf 2 _ rfl
  rw [ps3] at h2
  have h3 : DataW.trod enc Try.prog w base spare held n 3 ((cs.drop 3).take (Try.prog.cellsOf 3)) = xs[3]? := hf 3 _ rfl
  rw [ps3] at h3
  have h4 : DataW.trod enc Try.prog w base spare held n 3 ((cs.drop 4).take (Try.prog.cellsOf 3)) = xs[4]? := hf 4 _ rfl
  rw [ps3] at h4
  have h5 : DataW.trod enc Try.prog w base spare held n 27 ((cs.drop 5).take (Try.prog.cellsOf 27)) = xs[5]? := hf 5 _ rfl
  rw [ps27] at h5
  have h6 : DataW.trod enc Try.prog w base spare held n 27 ((cs.drop 6).take (Try.prog.cellsOf 27)) = xs[6]? := hf 6 _ rfl
  rw [ps27] at h6
  have h7 : DataW.trod enc Try.prog w base spare held n 27 ((cs.drop 7).take (Try.prog.cellsOf 27)) = xs[7]? := hf 7 _ rfl
  rw [ps27] at h7
  have h8 : DataW.trod enc Try.prog w base spare held n 27 ((cs.drop 8).take (Try.prog.cellsOf 27)) = xs[8]? := hf 8 _ rfl
  rw [ps27] at h8
  obtain ⟨v0, e0, _⟩ := int_at Try.underlying3 (by omega) (some_at hlen (by decide)) h0
  obtain ⟨v1, e1, _⟩ := int_at Try.underlying3 (by omega) (some_at hlen (by decide)) h1
  obtain ⟨v2, e2, _⟩ := int_at Try.underlying3 (by omega) (some_at hlen (by decide)) h2
  obtain ⟨v3, e3, _⟩ := int_at Try.underlying3 (by omega) (some_at hlen (by decide)) h3
  obtain ⟨v4, e4, _⟩ := int_at Try.underlying3 (by omega) (some_at hlen (by decide)) h4
  obtain ⟨v5, e5, _⟩ := int_at Try.underlying27 (by omega) (some_at hlen (by decide)) h5
  obtain ⟨v6, e6, _⟩ := int_at Try.underlying27 (by omega) (some_at hlen (by decide)) h6
  obtain ⟨v7, e7, _⟩ := int_at Try.underlying27 (by omega) (some_at hlen (by decide)) h7
  obtain ⟨v8, e8, _⟩ := int_at Try.underlying27 (by omega) (some_at hlen (by decide)) h8
  refine ⟨⟨v0, v1, v2, v3, v4, v5, v6, v7, v8⟩, List.ext_getElem? fun i => ?_⟩
  rcases i with _ | _ | _ | _ | _ | _ | _ | _ | _ | i
  · exact e0
  · exact e1
  · exact e2
  · exact e3
  · exact e4
  · exact e5
  · exact e6
  · exact e7
  · exact e8
  · rw [List.getElem?_eq_none (by omega)]; rfl
set_option maxRecDepth 100000 in
theorem open_claim {r : Reach} {b0 : Nat} {v : Value} {d : DataW H} {p : List MemPlace} (hv : Value.okWide Try.prog w r b0 29 v) (h : DataW.Trod enc Try.prog w base spare held 29 v d p) : ∃ c : Cl, v = .agg #[.int .i64 c.firm, .int .i64 c.seq, .int .i64 c.time, .int .i64 c.kind, .int .i64 c.a, .int .u64 c.ref, .int .u64 c.aux, .int .u64 c.prev, .int .u64 c.tag] := by
  obtain ⟨cs, rfl, _⟩ := okWide_struct Try.underlying29 hv
  obtain ⟨fuel, hf⟩ := h
  obtain ⟨c, hc⟩ := claim_cells hf
  refine ⟨c, ?_⟩
  have : cs = (#[.int .i64 c.firm, .int .i64 c.seq, .int .i64 c.time, .int .i64 c.kind, .int .i64 c.a, .int .u64 c.ref, .int .u64 c.aux, .int .u64 c.prev, .int .u64 c.tag] : Array Value) := by
    apply Array.toList_inj.1
    exact hc
  rw [this]
set_option maxRecDepth 100000 in
theorem raw_cells {cs : List Value} {fuel : Nat} {x : DataW H × List MemPlace} (h : DataW.trod enc Try.prog w base spare held fuel 58 cs = some x) :
    ∃ x0 x1 x2 x3 : Int, cs = [.int .u8 x0, .int .u8 x1, .int .u8 x2, .int .u8 x3] ∧ (Lit.int .u8 x0).wf = true ∧ (Lit.int .u8 x1).wf = true ∧ (Lit.int .u8 x2).wf = true ∧ (Lit.int .u8 x3).wf = true := by
  obtain ⟨xs, n, _, _, hl, hlen, hf⟩ := DataW.trod_struct Try.underlying58 h
  rw [ps58] at hl
  have h0 : DataW.trod enc Try.prog w base spare held n 56 ((cs.drop 0).take (Try.prog.cellsOf 56)) = xs[0]? := hf 0 _ rfl
  rw [ps56, List.drop_zero] at h0
  rw [List.take_of_length_le (by omega)] at h0
  obtain ⟨y, hy⟩ := Option.isSome_iff_exists.1 (some_at hlen (i := 0) (by decide))
  rw [hy] at h0
  obtain ⟨ys, m, _, _, _, hylen, hg⟩ := DataW.trod_array Try.underlying56 h0
  have g0 : DataW.trod enc Try.prog w base spare held m 5 ((cs.drop (0 * Try.prog.cellsOf 5)).take (Try.prog.cellsOf 5)) = ys[0]? := hg 0 (by decide)
  rw [ps5] at g0
  have g1 : DataW.trod enc Try.prog w base spare held m 5 ((cs.drop (1 * Try.prog.cellsOf 5)).take (Try.prog.cellsOf 5)) = ys[1]? := hg 1 (by decide)
  rw [ps5] at g1
  have g2 : DataW.trod enc Try.prog w base spare held m 5 ((cs.drop (2 * Try.prog.cellsOf 5)).take (Try.prog.cellsOf 5)) = ys[2]? := hg 2 (by decide)
  rw [ps5] at g2
  have g3 : DataW.trod enc Try.prog w base spare held m 5 ((cs.drop (3 * Try.prog.cellsOf 5)).take (Try.prog.cellsOf 5)) = ys[3]? := hg 3 (by decide)
  rw [ps5] at g3
  obtain ⟨v0, e0, w0⟩ := int_at Try.underlying5 (by omega) (some_at hylen (by decide)) g0
  obtain ⟨v1, e1, w1⟩ := int_at Try.underlying5 (by omega) (some_at hylen (by decide)) g1
  obtain ⟨v2, e2, w2⟩ := int_at Try.underlying5 (by omega) (some_at hylen (by decide)) g2
  obtain ⟨v3, e3, w3⟩ := int_at Try.underlying5 (by omega) (some_at hylen (by decide)) g3
  refine ⟨v0, v1, v2, v3, List.ext_getElem? fun i => ?_, w0, w1, w2, w3⟩
  rcases i with _ | _ | _ | _ | i
  · exact e0
  · exact e1
  · exact e2
  · exact e3
  · rw [List.getElem?_eq_none (by omega)]; rfl
/-- The descriptions that a slice holds: their bytes. -/
def RawsAt (w : World) (B : Nat) (A : Option Addr) (n : Nat) : Prop :=
  0 < n → ∃ b off, A = some ⟨b, off, none⟩ ∧ b < B ∧ ∀ k, k < n → ∃ x0 x1 x2 x3 : Int, (w.cell? ⟨b, off + k * 4, none⟩ = some (.int .u8 x0) ∧ w.cell? ⟨b, off + k * 4 + 1, none⟩ = some (.int .u8 x1) ∧ w.cell? ⟨b, off + k * 4 + 2, none⟩ = some (.int .u8 x2) ∧ w.cell? ⟨b, off + k * 4 + 3, none⟩ = some (.int .u8 x3)) ∧
    ((0 ≤ x0 ∧ x0 < 256) ∧ (0 ≤ x1 ∧ x1 < 256) ∧ (0 ≤ x2 ∧ x2 < 256) ∧ (0 ≤ x3 ∧ x3 < 256))
theorem u8_bd {x : Int} (h : (Lit.int .u8 x).wf = true) : 0 ≤ x ∧ x < 256 := by
  have e1 : IntKind.u8.min = 0 := by decide
  have e2 : IntKind.u8.max = 255 := by decide
  simp only [Lit.wf, e1, e2, Bool.and_eq_true, decide_eq_true_eq] at h
  omega
theorem add_more (a : Addr) (n k : Nat) : a.add (n + k) = (a.add n).add k := by
  unfold Addr.add
  by_cases hn : n = 0
  · subst hn
    by_cases hk : k = 0
    · subst hk; simp
    · simp [hk]
  · by_cases hk : k = 0
    · subst hk; simp [hn]
    · simp [hn, hk, Nat.add_assoc]
theorem raws_of {fuel : Nat} {A : Option Addr} {n cap : Nat} {x : DataW H × List MemPlace} (h : DataW.trod enc Try.prog w base spare held fuel 22 [.slice A n cap] = some x) : RawsAt w w.heap.size A n := by
  intro hn
  rcases open_slice Try.underlying22 h with ⟨h0, _⟩ | ⟨a, len, cap', m, k, D, Pl, hcs, hb, hl, hm, hmm, hx, hi⟩
  · simp only [List.cons.injEq, Value.slice.injEq, and_true] at h0
    omega
  · simp only [List.cons.injEq, Value.slice.injEq, and_true] at hcs
    obtain ⟨rfl, rfl, rfl⟩ := hcs
    have hlm : n ≤ m := by rw [hmm]; split <;> omega
    have hat : ∀ i, i < n → ∃ x0 x1 x2 x3 : Int, (w.cell? (a.add (i * 4 + 0)) = some (.int .u8 x0) ∧ w.cell? (a.add (i * 4 + 1)) = some (.int .u8 x1) ∧ w.cell? (a.add (i * 4 + 2)) = some (.int .u8 x2) ∧ w.cell? (a.add (i * 4 + 3)) = some (.int .u8 x3)) ∧
        ((0 ≤ x0 ∧ x0 < 256) ∧ (0 ≤ x1 ∧ x1 < 256) ∧ (0 ≤ x2 ∧ x2 < 256) ∧ (0 ≤ x3 ∧ x3 < 256)) := by
      intro i hin
      obtain ⟨cs', hc, ht⟩ := hi i (by omega)
      rw [ps58] at hc
      obtain ⟨_, hlen, hg⟩ := World.cells?_some hc
      obtain ⟨x0, x1, x2, x3, rfl, w0, w1, w2, w3⟩ := raw_cells ht
      refine ⟨x0, x1, x2, x3, ⟨?_, ?_, ?_, ?_⟩, u8_bd w0, u8_bd w1, u8_bd w2, u8_bd w3⟩
      · exact ((add_more a (i * 4) 0).symm ▸ hg 0 (by decide))
      · exact ((add_more a (i * 4) 1).symm ▸ hg 1 (by decide))
      · exact ((add_more a (i * 4) 2).symm ▸ hg 2 (by decide))
      · exact ((add_more a (i * 4) 3).symm ▸ hg 3 (by decide))
    obtain ⟨b, off, sub⟩ := a
    obtain ⟨x0, x1, x2, x3, ⟨c0, _⟩, _⟩ := hat 0 hn
    have hlt := World.block_lt_of_cell? w _ c0
    cases sub with
    | some z =>
      have : w.cell? ⟨b, off, some z⟩ = none := by unfold World.cell?; split <;> simp
      rw [show (⟨b, off, some z⟩ : Addr).add (0 * 4 + 0) = ⟨b, off, some z⟩ from rfl, this] at c0
      cases c0
    | none =>
      have hadd : ∀ j, (⟨b, off, none⟩ : Addr).add j = ⟨b, off + j, none⟩ := fun j => by
        unfold Addr.add
        by_cases hj : j = 0
        · subst hj; rfl
        · rw [if_neg hj]
      refine ⟨b, off, rfl, by rw [hadd] at hlt; exact hlt, fun k hk => ?_⟩
      have h4 := hat k hk
      simp only [hadd, Nat.add_zero, ← Nat.add_assoc] at h4
      exact h4

theorem trodAll_below {ts : List TypeId} (hts : ∀ t ∈ ts, Try.prog.readableRec t = true ∧ t < Try.prog.types.size) {W W' : World} (hb : Below W.heap.size W W') :
    ∀ {vs : List Value} {ds : List (DataW H)} {ps : List MemPlace}, DataW.TrodAll enc Try.prog W 0 (fun _ => true) true ts vs ds ps → (∀ x ∈ ps, x.block < W.heap.size) →
      DataW.TrodAll enc Try.prog W' 0 (fun b => decide (b < W.heap.size)) true ts vs ds ps := by
  induction ts with
  | nil =>
    intro vs ds ps h _
    cases vs <;> cases ds <;> simp_all [DataW.TrodAll]
  | cons t ts ih =>
    intro vs ds ps h hlt
    cases vs with
    | nil => simp [DataW.TrodAll] at h
    | cons v vs =>
      cases ds with
      | nil => simp [DataW.TrodAll] at h
      | cons d ds =>
        obtain ⟨p, q, h1, h2, rfl⟩ := h
        refine ⟨p, q, ?_, ih (fun t ht => hts t (List.mem_cons_of_mem _ ht)) h2 (fun x hx => hlt x (List.mem_append_right _ hx)), rfl⟩
        exact Below.trod Try.laidHere (hts t (List.mem_cons_self ..)).1 (hts t (List.mem_cons_self ..)).2 h1 hb (fun x hx => hlt x (List.mem_append_left _ hx))
theorem law_post {f : Func} {s : ChangeSpec} {W W' : World} {args : Array Value} {ds : List (DataW H)} {p : List MemPlace} (hW : DataW.Whole enc Try.prog f.params.toList s.vars false W args.toList ds [] p) (hv : s.vars = [])
    (hfn : s.fn H (ds ++ []) = { results := [.lit (.bool true)], args := ds }) (hres : f.resultTypes = #[4]) (hts : ∀ t ∈ f.params.toList, Try.prog.readableRec t = true ∧ t < Try.prog.types.size) (hb : Below W.heap.size W W') :
    s.post enc Try.prog f false true false false W args (.bool true) W' := by
  have hlt : ∀ x ∈ p, x.block < W.heap.size := fun x hx => hW.lt x hx
  obtain ⟨pa, pv, hA, hV, rfl, _, _⟩ := id hW
  rw [hv] at hV
  have hpv : pv = [] := hV
  subst hpv
  rw [List.append_nil] at hlt
  refine ⟨ds, [], pa ++ [], [], pa, [], hW, ?_, ?_, ?_, hb.frame _, fun h => by cases h⟩
  · rw [hfn, hres]
    exact trodAll_mk1 (shut_bool Try.underlying4 _)
  · rw [hfn]
    exact trodAll_below hts hb hA hlt
  · rw [hfn, hv]
    rfl
end
end Go.Proofs.Ythpbjceajnaokaa
