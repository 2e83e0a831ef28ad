/- The statements' own wrapper of Append. Condition: a chain of at most 999 claims. -/
import Derived.Test.YthpbjceajnaokaaLat
namespace Go.Proofs.Ythpbjceajnaokaa
open Go.RowKit

/-- What an append leaves: the new slice, or the old one. -/
def AppRes (key : Int) (A : Option Addr) (n ca : Nat) (xs : List Cl) (c : Cl) (w' : World) (A' : Option Addr) (n' c' : Nat) (ys : List Cl) (er : Int) : Prop :=
  SlC w' w'.heap.size A' n' ys ∧
    ((chkF key c.firm (xs ++ [nextC key xs c]) = true ∧ er = 0 ∧ ys = xs ++ [nextC key xs c] ∧ n' = n + 1 ∧ n' ≤ c') ∨ (chkF key c.firm (xs ++ [nextC key xs c]) = false ∧ er = 410 ∧ A' = A ∧ n' = n ∧ c' = ca ∧ ys = xs))
def AddPost (key : Int) (A : Option Addr) (n ca : Nat) (xs : List Cl) (c : Cl) (w : World) (e : Ending) (w' : World) : Prop :=
  Below w.heap.size w w' ∧ ∃ A' n' c' ys er, e = .returned (.agg #[.slice A' n' c', .int .i64 er]) ∧ AppRes key A n ca xs c w' A' n' c' ys er ∧ (er = 0 → ∀ ad, A' = some ad → w.heap.size ≤ ad.block)

set_option maxHeartbeats 1000000 in
theorem add_any (A : Option Addr) (n ca : Nat) (key : Int) (xs : List Cl) (c : Cl) (w : World) (ha : SlC w w.heap.size A n xs) (hn : n ≤ 999) :
    Calls Try.prog 13 #[.slice A n ca, .int .u64 key, .agg #[.int .i64 c.firm, .int .i64 c.seq, .int .i64 c.time, .int .i64 c.kind, .int .i64 c.a, .int .u64 c.ref, .int .u64 c.aux, .int .u64 c.prev, .int .u64 c.tag]] w (AddPost key A n ca xs c w) := by
  have H := fun W h => hide (append_any A n ca key xs c W h hn)
  have Ha := hide ha; clear ha
  go_enter Try.func13, Try.ntmps13
  go_wp2_with fail
  refine (H _ (((Ha.out.alloc (Nat.le_refl _) _).alloc (by simp) _).more (by simp; omega))).out.mono ?_
  rintro e w1 ⟨hb1, A1, n1, c1, ys, er, rfl, hs1, hr1⟩
  have Hs1 := hide hs1; clear hs1
  have Hr1 := hide hr1; clear hr1
  clear H
  have d0 : w1.cell? ⟨w.heap.size + 1, 0, none⟩ = some (.slice none 0 0) := (hb1.cell (p := ⟨w.heap.size + 1, 0, none⟩) (by simp)).trans (by rw [show w.heap.size + 1 = (w.alloc (.cells (#[.int .i64 c.firm, .int .i64 c.seq, .int .i64 c.time, .int .i64 c.kind, .int .i64 c.a, .int .u64 c.ref, .int .u64 c.aux, .int .u64 c.prev, .int .u64 c.tag]) 29)).heap.size from (World.size_alloc _ _).symm, World.cell?_alloc_new]; rfl)
  have d1 : w1.cell? ⟨w.heap.size + 1, 1, none⟩ = some (.int .i64 0) := (hb1.cell (p := ⟨w.heap.size + 1, 1, none⟩) (by simp)).trans (by rw [show w.heap.size + 1 = (w.alloc (.cells (#[.int .i64 c.firm, .int .i64 c.seq, .int .i64 c.time, .int .i64 c.kind, .int .i64 c.a, .int .u64 c.ref, .int .u64 c.aux, .int .u64 c.prev, .int .u64 c.tag]) 29)).heap.size from (World.size_alloc _ _).symm, World.cell?_alloc_new]; rfl)
  have hf1 : ∀ o, w1.frozen? ⟨w.heap.size + 1, o, none⟩ = false := fun o => (hb1.frozen (p := ⟨w.heap.size + 1, o, none⟩) (by simp)).trans (by go_simp)
  have Hb1 := hide (((((Below.refl _ w).alloc (Nat.le_refl _) (.cells (#[.int .i64 c.firm, .int .i64 c.seq, .int .i64 c.time, .int .i64 c.kind, .int .i64 c.a, .int .u64 c.ref, .int .u64 c.aux, .int .u64 c.prev, .int .u64 c.tag]) 29)).alloc (by simp) (.cells #[.slice none 0 0, .int .i64 0] 38))).trans (hb1.mono (by simp; omega))); clear hb1
  go_wp2
  obtain ⟨V, hV⟩ : ∃ V, V = (w1.setCell ⟨w.heap.size + 1, 0, none⟩ (.slice A1 n1 c1)).setCell ⟨w.heap.size + 1, 1, none⟩ (.int .i64 er) := ⟨_, rfl⟩
  have v0 : V.cell? ⟨w.heap.size + 1, 0, none⟩ = some (.slice A1 n1 c1) := by rw [hV]; go_simp
  have v1 : V.cell? ⟨w.heap.size + 1, 1, none⟩ = some (.int .i64 er) := by rw [hV]; go_simp
  have vb : Below w.heap.size w V := by
    rw [hV]
    exact (Hb1.out.setCell (p := ⟨w.heap.size + 1, 0, none⟩) (by show w.heap.size ≤ w.heap.size + 1; omega) _).setCell (p := ⟨w.heap.size + 1, 1, none⟩) (by show w.heap.size ≤ w.heap.size + 1; omega) _
  have vk : ∀ g o, g ≠ w.heap.size + 1 → V.cell? ⟨g, o, none⟩ = w1.cell? ⟨g, o, none⟩ := fun g o hg => by
    have hn : ∀ j, (⟨w.heap.size + 1, j, none⟩ : Addr) ≠ ⟨g, o, none⟩ := fun j e => hg (by have := congrArg Addr.block e; exact this.symm)
    rw [hV, World.cell?_setCell_other (h := hn 1), World.cell?_setCell_other (h := hn 0)]
  have vz : V.heap.size = w1.heap.size := by rw [hV]; simp
  rw [← hV]
  clear hV d0 d1 hf1
  refine bodyPost_ret (v := .agg #[.slice A1 n1 c1, .int .i64 er]) (by simp [results, Try.results13, go_sem, v0, v1]) rfl ⟨vb, A1, n1, c1, ys, er, rfl, ?_, ?_⟩
  · rcases Hr1.out with ⟨h1, h2, h3, h4, h5, h6⟩ | ⟨h1, h2, rfl, rfl, h5, rfl⟩
    · refine ⟨Hs1.out.keepAt (fun ad e o => vk _ _ ?_) (by omega), .inl ⟨h1, h2, h3, h4, h6⟩⟩
      have := h5 ad e
      simp at this
      omega
    · exact ⟨(Ha.out.below vb).more vb.size, .inr ⟨h1, h2, rfl, rfl, h5, rfl⟩⟩
  · intro h0 ad e
    rcases Hr1.out with ⟨h1, h2, h3, h4, h5, h6⟩ | ⟨h1, h2, _⟩
    · have := h5 ad e
      simp at this
      omega
    · rw [h2] at h0
      exact absurd h0 (by decide)
end Go.Proofs.Ythpbjceajnaokaa
