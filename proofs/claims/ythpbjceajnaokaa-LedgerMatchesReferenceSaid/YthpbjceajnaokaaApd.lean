/- Append: a claim at a chain's end. Condition: chains of at most 999 claims. -/
import Derived.Test.YthpbjceajnaokaaChk
namespace Go.Proofs.Ythpbjceajnaokaa
open Go.RowKit

/-- The claim as it is appended: numbered, chained, sealed. -/
def linkC (xs : List Cl) (c : Cl) : Cl := { c with seq := (xs.length : Int) + 1, prev := prevD xs }
def nextC (key : Int) (xs : List Cl) (c : Cl) : Cl := { linkC xs c with tag := tagC key (linkC xs c) }
theorem IsCl.set8 {w : World} {b : Nat} {d : Cl} {t : Int} (h : IsCl w b 0 d) : IsCl (w.setCell ⟨b, 8, none⟩ (.int .u64 t)) b 0 { d with tag := t } := by
  obtain ⟨h0, h1, h2, h3, h4, h5, h6, h7, h8⟩ := h.at0
  refine IsCl.of0 ?_ ?_ ?_ ?_ ?_ ?_ ?_ ?_ ?_ <;> go_simp
theorem keepS {w2 w' : World} {B : Nat} {d : Cl} (hb : Below w2.heap.size w2 w') (h : IsCl w2 B 0 d) (hz : B < w2.heap.size) :
    w'.cell? ⟨B, 0, none⟩ = some (.int .i64 d.firm) ∧ w'.cell? ⟨B, 1, none⟩ = some (.int .i64 d.seq) ∧ w'.cell? ⟨B, 2, none⟩ = some (.int .i64 d.time) ∧ w'.cell? ⟨B, 3, none⟩ = some (.int .i64 d.kind) ∧ w'.cell? ⟨B, 4, none⟩ = some (.int .i64 d.a) ∧ w'.cell? ⟨B, 5, none⟩ = some (.int .u64 d.ref) ∧ w'.cell? ⟨B, 6, none⟩ = some (.int .u64 d.aux) ∧ w'.cell? ⟨B, 7, none⟩ = some (.int .u64 d.prev) ∧ w'.cell? ⟨B, 8, none⟩ = some (.int .u64 d.tag) ∧ Below w2.heap.size w2 w' := by
  obtain ⟨h0, h1, h2, h3, h4, h5, h6, h7, h8⟩ := (h.keep (w' := w') (fun o => hb.cell (p := ⟨B, o, none⟩) hz)).at0
  exact ⟨h0, h1, h2, h3, h4, h5, h6, h7, h8, hb⟩
theorem slc_in {w2 w' : World} {B n : Nat} {A : Option Addr} {xs : List Cl} (hs : SlC w2 B A n xs) (hz : B < w2.heap.size) (hb : Below w2.heap.size w2 w') : SlC w' w'.heap.size A n xs := ((hs.more (Nat.le_of_lt hz)).below hb).more hb.size
theorem slc_one (w : World) (c : Cl) : SlC (w.alloc (.cells (#[.int .i64 c.firm, .int .i64 c.seq, .int .i64 c.time, .int .i64 c.kind, .int .i64 c.a, .int .u64 c.ref, .int .u64 c.aux, .int .u64 c.prev, .int .u64 c.tag]) 29)) (w.heap.size + 1) (some ⟨w.heap.size, 0, none⟩) 1 [c] := by
  refine ⟨rfl, fun _ => ⟨w.heap.size, 0, rfl, Nat.lt_succ_self _, fun k d hk => ?_⟩⟩
  rcases k with _ | k
  · simp only [List.getElem?_cons_zero, Option.some.injEq] at hk
    subst hk
    exact IsCl.block (heap_alloc_new w _)
  · simp at hk
theorem OwC.allocd {w : World} {base n : Nat} {v : Value} {xs : List Cl} (h : OwC w base v n xs) (o : Obj) : OwC (w.alloc o) base v n xs := World.ownsRow.alloc h o
theorem OwC.row {w : World} {base n : Nat} {v : Value} {xs : List Cl} (h : OwC w base v n xs) : ∀ k, v.ownBlock = some k → base ≤ k := fun k e => (World.ownsRow.lt h k e).1
theorem OwC.cap_le {w : World} {base n c : Nat} {A : Option Addr} {xs : List Cl} (h : OwC w base (.slice A n c) n xs) : n ≤ c := by
  rcases h.2 with ⟨h1, _⟩ | ⟨g, cap, cur, hv, _, _, hn, _⟩
  · injection h1; omega
  · injection hv; omega
theorem SlC.drew {w : World} {B n : Nat} {A : Option Addr} {xs : List Cl} (h : SlC w B A n xs) : SlC w.drew B A n xs := h
def AppPost (key : Int) (A : Option Addr) (n ca : Nat) (xs : List Cl) (c : Cl) (w : World) (e : Ending) (w' : World) : Prop :=
  Below w.heap.size w w' ∧ ∃ A' n' c' ys er, e = .returned (.tuple #[.slice A' n' c', .int .i64 er]) ∧ SlC w' w'.heap.size A' n' ys ∧
    ((chkF key c.firm (xs ++ [nextC key xs c]) = true ∧ er = 0 ∧ ys = xs ++ [nextC key xs c] ∧ n' = n + 1 ∧ (∀ ad, A' = some ad → w.heap.size ≤ ad.block) ∧ n' ≤ c') ∨ (chkF key c.firm (xs ++ [nextC key xs c]) = false ∧ er = 410 ∧ A' = A ∧ n' = n ∧ c' = ca ∧ ys = xs))

set_option maxRecDepth 100000 in
set_option maxHeartbeats 2000000 in
theorem append_any (A : Option Addr) (n ca : Nat) (key : Int) (xs : List Cl) (c : Cl) (w : World) (ha : SlC w w.heap.size A n xs) (hn : n ≤ 999) :
    Calls Try.prog 36 #[.slice A n ca, .int .u64 key, .agg #[.int .i64 c.firm, .int .i64 c.seq, .int .i64 c.time, .int .i64 c.kind, .int .i64 c.a, .int .u64 c.ref, .int .u64 c.aux, .int .u64 c.prev, .int .u64 c.tag]] w (AppPost key A n ca xs c w) := by
  have Ha := hide ha; clear ha
  go_enter Try.func36, Try.ntmps36
  go_upto_if 20 with (fail)
  go_cut [28] (fun _ wx => Below w.heap.size w wx ∧ w.heap.size < wx.heap.size ∧ IsCl wx w.heap.size 0 (linkC xs c) ∧ ∀ o, wx.frozen? ⟨w.heap.size, o, none⟩ = false)
  case first =>
    rcases Nat.eq_zero_or_pos n with h0 | h0
    · subst h0
      go_wp2_with fail
      go_meet
      refine ⟨(Below.refl _ _).alloc (Nat.le_refl _) _, by simp, ?_, by intro o; go_simp⟩
      have hx : xs = [] := List.eq_nil_of_length_eq_zero Ha.out.1
      subst hx
      exact IsCl.block (c := linkC [] c) (heap_alloc_new w _)
    · obtain ⟨m, rfl⟩ : ∃ m, n = m + 1 := ⟨n - 1, by omega⟩
      obtain ⟨b, off, d, rfl, hb, hx, hc⟩ := Ha.out.at_ (k := m) (by omega)
      have Hx := hide hx; clear hx
      obtain ⟨g0, g1, g2, g3, g4, g5, g6, g7, g8⟩ := hc
      go_wp2_with fail
      refine (digest_any d _).mono ?_
      rintro e w1 ⟨rfl, hb1⟩
      have hz1 : w.heap.size < w1.heap.size := by have := hb1.size; simp at this; omega
      obtain ⟨b0, b1, b2, b3, b4, b5, b6, b7, b8⟩ := ((IsCl.block (w := w.alloc _) (c := { c with seq := (m : Int) + 1 + 1, prev := 0 }) (heap_alloc_new w _)).keep (w' := w1) (fun o => hb1.cell (p := ⟨w.heap.size, o, none⟩) (by simp))).at0
      have hfz : ∀ o, w1.frozen? ⟨w.heap.size, o, none⟩ = false := fun o => (hb1.frozen (p := ⟨w.heap.size, o, none⟩) (by simp)).trans (by go_simp)
      have Hb1 := hide hb1; clear hb1
      dsimp only at b0 b1 b2 b3 b4 b5 b6 b7 b8
      go_wp2_with fail
      go_meet
      refine ⟨(((Below.refl _ _).alloc (Nat.le_refl _) _).trans (Hb1.out.mono (by simp))).setCell (p := ⟨w.heap.size, 7, none⟩) (Nat.le_refl _) _, by simp; exact hz1, ?_, by intro o; simp only [World.frozen?_setCell]; exact hfz o⟩
      have hl := Ha.out.1
      have e1 : prevD xs = digC d := by
        have : lastC xs = d := by
          have h2 := Hx.out
          rw [lastC, List.getLast?_eq_getElem?, hl]
          simp only [Nat.add_sub_cancel]
          rw [h2]; rfl
        rw [prevD, if_neg (by omega), this]
      refine IsCl.of0 ?_ ?_ ?_ ?_ ?_ ?_ ?_ ?_ ?_ <;> simp only [linkC, hl, e1] <;> go_simp
  case rest =>
    obtain ⟨hcb, hcz, hci, hcf⟩ := hcut
    have hx1 := Ha.out.1
    obtain ⟨b0, b1, b2, b3, b4, b5, b6, b7, b8⟩ := hci.at0
    have Hcb := hide hcb; clear hcb
    have Hci := hide hci; clear hci
    have Hx1 := hide hx1; clear hx1
    go_wp2_with fail
    refine (tag_any key (linkC xs c) _).mono ?_
    rintro e w1 ⟨rfl, hb1⟩
    have hz1 : w.heap.size < w1.heap.size := by have := hb1.size; omega
    have q1 := Hci.out.keep (w' := w1) (fun o => hb1.cell (p := ⟨w.heap.size, o, none⟩) hcz)
    have hf1 : ∀ o, w1.frozen? ⟨w.heap.size, o, none⟩ = false := fun o => (hb1.frozen (p := ⟨w.heap.size, o, none⟩) hcz).trans (hcf o)
    clear b0 b1 b2 b3 b4 b5 b6 b7 b8 hcf
    obtain ⟨b0, b1, b2, b3, b4, b5, b6, b7, b8⟩ := q1.at0
    have Hb1 := hide (Hcb.out.trans (hb1.mono Hcb.out.size)); clear hb1
    have q2 : IsCl (w1.setCell ⟨w.heap.size, 8, none⟩ (.int .u64 (tagC key (linkC xs c)))) w.heap.size 0 (nextC key xs c) := by
      exact q1.set8
    have hb2 : Below w.heap.size w (w1.setCell ⟨w.heap.size, 8, none⟩ (.int .u64 (tagC key (linkC xs c)))) := Hb1.out.setCell (p := ⟨w.heap.size, 8, none⟩) (Nat.le_refl _) _
    have hz2 : w.heap.size < (w1.setCell ⟨w.heap.size, 8, none⟩ (.int .u64 (tagC key (linkC xs c)))).heap.size := by simp; exact hz1
    have Q2 := hide q2; clear q2
    have Hb2 := hide hb2; clear hb2
    have Hz2 := hide hz2; clear hz2
    go_upto_region 7 with (fail)
    generalize (w1.setCell ⟨w.heap.size, 8, none⟩ (.int .u64 (tagC key (linkC xs c)))) = w2 at *
    clear b0 b1 b2 b3 b4 b5 b6 b7 b8 hf1 hz1 q1 hcz Hb1 Hcb Hci
    obtain ⟨b0, b1, b2, b3, b4, b5, b6, b7, b8⟩ := Q2.out.at0
    have hz2 := Hz2.out
    have Hs := hide (Ha.out.below Hb2.out)
    go_cut [8] (fun v wx => ∃ A' c', v = .slice A' (n + 1) c' ∧ SlC wx wx.heap.size A' (n + 1) (xs ++ [nextC key xs c]) ∧ wx.cell? ⟨w.heap.size, 0, none⟩ = some (.int .i64 (nextC key xs c).firm) ∧ w.heap.size < wx.heap.size ∧ Below w2.heap.size w2 wx ∧ (∀ ad, A' = some ad → w.heap.size ≤ ad.block) ∧ n + 1 ≤ c')
    case first =>
      go_region_held3 (fun w' => w'.cell? ⟨w.heap.size, 0, none⟩ = some (.int .i64 (nextC key xs c).firm) ∧ w'.cell? ⟨w.heap.size, 1, none⟩ = some (.int .i64 (nextC key xs c).seq) ∧ w'.cell? ⟨w.heap.size, 2, none⟩ = some (.int .i64 (nextC key xs c).time) ∧ w'.cell? ⟨w.heap.size, 3, none⟩ = some (.int .i64 (nextC key xs c).kind) ∧ w'.cell? ⟨w.heap.size, 4, none⟩ = some (.int .i64 (nextC key xs c).a) ∧ w'.cell? ⟨w.heap.size, 5, none⟩ = some (.int .u64 (nextC key xs c).ref) ∧ w'.cell? ⟨w.heap.size, 6, none⟩ = some (.int .u64 (nextC key xs c).aux) ∧ w'.cell? ⟨w.heap.size, 7, none⟩ = some (.int .u64 (nextC key xs c).prev) ∧ w'.cell? ⟨w.heap.size, 8, none⟩ = some (.int .u64 (nextC key xs c).tag) ∧ Below w2.heap.size w2 w')
        ((go_split_ands; refine keepS ?_ Q2.out Hz2.out; first | exact (Below.refl _ _).drew | assumption | exact Below.alloc hB3 hB3.size _ | exact Below.alloc ((Below.refl _ _).drew) (Nat.le_refl _) _))
        (first
          | (go_at_call 54; go_split_ands; refine (clone_any A n ca xs _ (slc_in Hs.out Hz2.out (by assumption)) (by omega)).mono ?_; rintro e w3 ⟨A3, c3, rfl, ho3, hb3⟩; have hB3 : Below w2.heap.size w2 w3 := Below.trans (by assumption) (hb3.mono (Below.size (by assumption))))
          | (refine step_app (by rfl) (.tmp 34) (.tmp 36) (by rfl) (.slice A3 n c3) (by rfl) (some ⟨w3.heap.size, 0, none⟩) 1 1 (by rfl) w2.heap.size n (w3.heap.size + 1) xs [nextC key xs c] (ho3.allocd _) (slc_one w3 _) (by omega) (by have := hB3.size; simp; omega) ?_; intro A4 c4 w4 ho4 hg4 hat4; have hB4 : Below w2.heap.size w2 w4 := (hB3.alloc hB3.size _).grown hg4 (by have := hB3.size; simp; omega) (ho3.row))
          | (have _tok := hB3; (refine step_app (by rfl) (.tmp 34) (.tmp 36) (by rfl) (.slice A3 n c3) (by rfl) (some ⟨w2.heap.size, 0, none⟩) 1 1 (by rfl) _ n _ xs [nextC key xs c] ho3 ((SlC.drew (slc_one w2 _)).below (hb3.mono (by simp))) (by omega) hb3.size ?_; intro A4 c4 w4 ho4 hg4 hat4; have hB4 : Below w2.heap.size w2 w4 := hB3.grown hg4 hB3.size (fun k e => by have := ho3.row k e; simp at this; omega)))
          | fail)
      all_goals
        go_wp2_with fail
        go_meet
        refine ⟨A4, c4, rfl, ho4.slc, (keepS hB4 Q2.out Hz2.out).1, Nat.lt_of_lt_of_le Hz2.out hB4.size, hB4, fun ad e => ?_, ho4.cap_le⟩
        subst e
        have hr4 := ho4.row ad.block rfl
        have hz2' := Hz2.out
        try simp at hr4
        omega
    case rest =>
      obtain ⟨A4, c4, rfl, hs4, hc4, hz4, hb4, hn4, hcp4⟩ := hcut
      have Hcp4 := hide hcp4; clear hcp4
      have Hn4 := hide hn4; clear hn4
      clear b0 b1 b2 b3 b4 b5 b6 b7 b8 hz2
      have Hs4 := hide hs4; clear hs4
      have Hb4 := hide hb4; clear hb4
      go_wp2_with fail
      refine (check_any A4 (n + 1) c4 key (nextC key xs c).firm (xs ++ [nextC key xs c]) _ Hs4.out (by omega)).mono ?_
      rintro e w5 ⟨rfl, hb5⟩
      have Hb5 := hide (Hb2.out.trans ((Hb4.out.trans (hb5.mono Hb4.out.size)).mono Hb2.out.size))
      have Hs5 := hide ((Hs4.out.below hb5).more hb5.size)
      have Hb25 := hide (Hb4.out.trans (hb5.mono Hb4.out.size)); clear hb5
      rcases Bool.eq_false_or_eq_true (chkF key (nextC key xs c).firm (xs ++ [nextC key xs c])) with hq | hq
      · have Hq := hide hq
        rw [hq, if_pos rfl]; clear hq
        go_wp2
        go_ret2
        exact ⟨Hb5.out, A4, n + 1, c4, _, _, rfl, Hs5.out, .inl ⟨Hq.out, rfl, rfl, rfl, fun ad e => Hn4.out ad e, Hcp4.out⟩⟩
      · have Hq := hide hq
        rw [hq, if_neg Bool.false_ne_true]; clear hq
        go_wp2
        go_ret2
        exact ⟨Hb5.out, A, n, ca, _, _, rfl, slc_in Hs.out Hz2.out Hb25.out, .inr ⟨Hq.out, rfl, rfl, rfl, rfl, rfl⟩⟩
end Go.Proofs.Ythpbjceajnaokaa
