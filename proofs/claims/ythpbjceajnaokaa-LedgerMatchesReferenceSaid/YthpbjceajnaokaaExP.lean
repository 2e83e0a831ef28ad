/- The claims of the examples, reckoned. No condition. -/
import Derived.Test.YthpbjceajnaokaaAdd
namespace Go.Proofs.Ythpbjceajnaokaa
open Go.RowKit

def ex1 : Cl := ⟨2, 0, 5, 1, 7, 0, 0, 0, 0⟩
def ex2 : Cl := ⟨2, 0, 9, 4, 1, 0, 0, 0, 0⟩
def ex4 : Cl := ⟨2, 0, 8, 3, 1, 0, 0, 0, 0⟩
def d1 : Cl := ⟨2, 1, 5, 1, 7, 0, 0, 0, 11741137231567739398⟩
def d2 : Cl := ⟨2, 2, 9, 4, 1, 0, 0, 5605037837742186124, 2648633182160435366⟩
theorem ex_d1 : nextC 9 [] ex1 = d1 := by decide +kernel
theorem ex_d2 : nextC 9 [d1] ex2 = d2 := by decide +kernel
theorem ex_chk1 : chkF 9 2 [d1] = true := by decide +kernel
theorem ex_chk2 : chkF 9 2 [d1, d2] = true := by decide +kernel
theorem ex_chk3 : chkF 9 1 [d1, d2] = false := by decide +kernel
theorem ex_chk4 : chkF 8 2 [d1, d2] = false := by decide +kernel
theorem ex_chk5 : chkF 9 2 [d1, d2, nextC 9 [d1, d2] ex2] = false := by decide +kernel
theorem ex_chk6 : chkF 9 2 [d1, d2, nextC 9 [d1, d2] ex4] = false := by decide +kernel
theorem ex_dig1 : digC d1 = 5605037837742186124 := by decide +kernel
theorem ex_tag2 : tagC 9 d2 = 2648633182160435366 := by decide +kernel
theorem ex_add1 {w' : World} {A A' : Option Addr} {n' c' : Nat} {ys : List Cl} {er : Int} (h : AppRes 9 A 0 0 [] ex1 w' A' n' c' ys er) : SlC w' w'.heap.size A' 1 [d1] ∧ er = 0 ∧ n' = 1 := by
  obtain ⟨hs, ⟨h1, h2, h3, h4, _⟩ | ⟨h1, _⟩⟩ := h
  · rw [List.nil_append, ex_d1] at h3
    subst h3
    subst h4
    exact ⟨hs, h2, rfl⟩
  · rw [List.nil_append, ex_d1] at h1
    exact absurd (ex_chk1.symm.trans h1) (by decide)
theorem ex_add2 {w' : World} {A A' : Option Addr} {c n' c' : Nat} {ys : List Cl} {er : Int} (h : AppRes 9 A 1 c [d1] ex2 w' A' n' c' ys er) : SlC w' w'.heap.size A' 2 [d1, d2] ∧ er = 0 ∧ n' = 2 := by
  obtain ⟨hs, ⟨h1, h2, h3, h4, _⟩ | ⟨h1, _⟩⟩ := h
  · rw [ex_d2, List.cons_append, List.nil_append] at h3
    subst h3
    subst h4
    exact ⟨hs, h2, rfl⟩
  · rw [ex_d2, List.cons_append, List.nil_append] at h1
    exact absurd (ex_chk2.symm.trans h1) (by decide)
theorem ex_add3 {w' : World} {A A' : Option Addr} {c n' c' : Nat} {ys : List Cl} {er : Int} (h : AppRes 9 A 2 c [d1, d2] ex2 w' A' n' c' ys er) : er = 410 := by
  obtain ⟨hs, ⟨h1, _⟩ | ⟨_, h1, _⟩⟩ := h
  · rw [List.cons_append, List.cons_append, List.nil_append] at h1
    exact absurd (ex_chk5.symm.trans h1) (by decide)
  · exact h1
theorem ex_add4 {w' : World} {A A' : Option Addr} {c n' c' : Nat} {ys : List Cl} {er : Int} (h : AppRes 9 A 2 c [d1, d2] ex4 w' A' n' c' ys er) : er = 410 := by
  obtain ⟨hs, ⟨h1, _⟩ | ⟨_, h1, _⟩⟩ := h
  · rw [List.cons_append, List.cons_append, List.nil_append] at h1
    exact absurd (ex_chk6.symm.trans h1) (by decide)
  · exact h1

theorem ex_at4 : insF (forcedL [[d1, d2]] 4 1).flatten = [] := by decide +kernel
theorem ex_at5 : insF (forcedL [[d1, d2]] 5 1).flatten = [d1] := by decide +kernel
theorem ex_at8 : insF (forcedL [[d1, d2]] 8 1).flatten = [d1] := by decide +kernel
theorem ex_at9 : insF (forcedL [[d1, d2]] 9 1).flatten = [] := by decide +kernel
theorem ex_len4 : (forcedL [[d1, d2]] 4 1).flatten.length = 0 := by decide +kernel
theorem ex_len5 : (forcedL [[d1, d2]] 5 1).flatten.length = 1 := by decide +kernel
theorem ex_len8 : (forcedL [[d1, d2]] 8 1).flatten.length = 1 := by decide +kernel
theorem ex_len9 : (forcedL [[d1, d2]] 9 1).flatten.length = 0 := by decide +kernel
theorem ex_latest : latestF 2 1 7 (insF (forcedL [[d1, d2]] 8 1).flatten) = some d1 := by decide +kernel
theorem ex_fork : forkF [d1] [d1, d2] = none := by decide +kernel
theorem ex_wf : ∀ xs ∈ [[d1, d2]], ∀ c ∈ xs, wfC c := by
  intro xs hxs c hc
  simp only [List.mem_singleton] at hxs
  subst hxs
  simp only [List.mem_cons, List.not_mem_nil, or_false] at hc
  rcases hc with rfl | rfl <;> exact ⟨i64_wf (by decide) (by decide), i64_wf (by decide) (by decide)⟩
theorem ex_short : ∀ xs ∈ [[d1, d2]], xs.length ≤ 1000 := by
  intro xs hxs
  simp only [List.mem_singleton] at hxs
  subst hxs
  decide
end Go.Proofs.Ythpbjceajnaokaa
