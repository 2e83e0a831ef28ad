/- A statement that locks or unlocks is done. No condition. -/
import Derived.Test.YthhfakkfdohcpaaGreatM03
import Derived.Defers
import Derived.Recover
import Derived.Test.YthhfakkfdohcpaaGreatM02
import Derived.Test.YthhfakkfdohcpaaGreatM01
import Derived.Test.YthhfakkfdohcpaaGreatShelf
namespace Go.Proofs.YthhfakkfdohcpaaGreat
open Go.RowKit
variable (p : Nat → Value) (su : Value)
/-- What a statement of the examples does: from the held locks v to r, taking lk; the pair that it notes. -/
inductive Kd : (op m v lk r : Int) → Option (Int × Int) → Prop
  | first {m bit : Int} (h : Frst m bit) : Kd 16 m 0 bit bit none
  | second {x y may bit : Int} (h : Held x y may bit) : Kd 16 y may bit (may + bit) (some (x, y))
  | una {v m r : Int} (h : Una v m r) : Kd 17 m v 0 r none
def PsAt (W : World) (base : Nat) (site : Int) : Option (Int × Int) → Value → Prop
  | none, ps => ps = .slice none 0 0
  | some (a, b), ps => ∃ g cap, ps = .slice (some ⟨g, 0, none⟩) 1 cap ∧ base ≤ g ∧ BoxAt W g [.int .i64 a, .int .i64 b, .int .i64 site]
theorem PsAt.but {W W' : World} {base : Nat} {site : Int} {pr : Option (Int × Int)} {ps : Value} {S : Nat → Prop} (h : PsAt W base site pr ps) (hb : But S W W') (hs : ∀ k, S k → k < base) : PsAt W' base site pr ps := by
  cases pr with
  | none => exact h
  | some q =>
    obtain ⟨g, cap, h1, h2, h3⟩ := h
    exact ⟨g, cap, h1, h2, h3.but hb (fun x => by have := hs _ x; omega)⟩
theorem PsAt.mono {W : World} {base base' : Nat} {site : Int} {pr : Option (Int × Int)} {ps : Value} (h : PsAt W base site pr ps) (hb : base' ≤ base) : PsAt W base' site pr ps := by
  cases pr with
  | none => exact h
  | some q =>
    obtain ⟨g, cap, h1, h2, h3⟩ := h
    exact ⟨g, cap, h1, by omega, h3⟩
/-- What a step leaves. -/
def StepTo (wk : Nat) (p : Nat → Value) (lv id ds : Int) (nm B : Value) (site op m : Int) (G A : Value) (lk r pa : Int) (su : Value) (pr : Option (Int × Int)) (w : World) (e : Ending) (w' : World) : Prop :=
  ∃ ps, e = .returned (.tuple #[]) ∧ BoxAt w' wk (wkL lk ps p lv id ds nm B site op m G A r r pa su) ∧ PsAt w' w.heap.size site pr ps ∧ But (fun k => k = wk) w w'
theorem lock_any (op m v lk r : Int) (pr : Option (Int × Int)) (hk : Kd op m v lk r pr) (wk : Nat) (lv id ds : Int) (nm B : Value) (site : Int) (G A : Value) (pa : Int) (w : World)
    (h : BoxAt w wk (wkL 0 (.slice none 0 0) p lv id ds nm B site op m G A v v pa su)) :
    Calls Tryz.prog 240 #[.pointer (some ⟨wk, 0, none⟩)] w (StepTo wk p lv id ds nm B site op m G A lk r pa su pr w) := by
  cases hk with
  | first hm => exact (lock_first p su _ _ hm wk lv id ds nm B site G A pa w h).mono fun e w' ⟨h1, h2, h3⟩ => ⟨_, h1, h2, rfl, h3⟩
  | second hm => exact (lock_second p su _ _ _ _ hm wk lv id ds nm B site G A pa w h).mono fun e w' ⟨g, cap, h1, h2, h3, h4, h5⟩ => ⟨_, h1, h4, ⟨g, cap, rfl, h2, h3⟩, h5⟩
  | una hm => exact (unlock_one p su _ _ _ hm wk lv id ds nm B site G A pa w h).mono fun e w' ⟨h1, h2, h3⟩ => ⟨_, h1, h2, rfl, h3⟩
/-- The cells of the examples' program: its lists lie in the blocks b. -/
def pgV (b : Nat → Nat) : Nat → Value
  | 0 => .slice (some ⟨b 0, 0, none⟩) 2 2
  | 1 => .slice (some ⟨b 1, 0, none⟩) 2 2
  | 2 => .slice (some ⟨b 2, 0, none⟩) 1 1
  | 3 => .slice (some ⟨b 3, 0, none⟩) 3 3
  | 4 => .int .i64 3
  | 5 => .int .i64 3
  | 6 => .int .i64 2
  | 7 => .slice (some ⟨b 4, 0, none⟩) 2 2
  | 8 => .slice (some ⟨b 5, 0, none⟩) 2 2
  | 9 => .slice (some ⟨b 6, 0, none⟩) 2 2
  | _ => undef
def stL (site op m : Int) : List Value := [.int .i64 site, .int .i64 op, .int .i64 0, .int .i64 m, .int .i64 0, .int .i64 0, .int .i64 0, .int .i64 0, .slice none 0 0, .int .i64 0, .int .i64 0, .int .i64 0, .slice none 0 0, .int .i64 0, .slice none 0 0, .slice none 0 0, .slice none 0 0, .slice none 0 0, .slice none 0 0, .slice none 0 0]
def dcL (b : Nat → Nat) : List Value := [.slice (some ⟨b 0, 0, none⟩) 2 2, .slice (some ⟨b 1, 0, none⟩) 2 2, .slice (some ⟨b 2, 0, none⟩) 1 1, .slice (some ⟨b 3, 0, none⟩) 3 3, .int .i64 3, .int .i64 3, .int .i64 2]
def stZ : List Value := [.int .i64 0, .int .i64 0, .int .i64 0, .int .i64 0, .int .i64 0, .int .i64 0, .int .i64 0, .int .i64 0, .slice none 0 0, .int .i64 0, .int .i64 0, .int .i64 0, .slice none 0 0, .int .i64 0, .slice none 0 0, .slice none 0 0, .slice none 0 0, .slice none 0 0, .slice none 0 0, .slice none 0 0]
def dcZ : List Value := [.slice none 0 0, .slice none 0 0, .slice none 0 0, .slice none 0 0, .int .i64 0, .int .i64 0, .int .i64 0]
theorem BoxAt.drew {W : World} {g : Nat} {vs : List Value} (h : BoxAt W g vs) : BoxAt W.drew g vs := h
theorem box_first (w : World) (A : List Value) (ta : TypeId) (o : Obj) : BoxAt ((w.alloc (.cells A.toArray ta)).alloc o).drew w.heap.size A := ((BoxAt.new w A ta).alloc o).drew
theorem box_second (w : World) (A : List Value) (ta : TypeId) (o : Obj) : BoxAt ((w.alloc o).alloc (.cells A.toArray ta)).drew (w.heap.size + 1) A := by
  have := BoxAt.new (w.alloc o) A ta
  rw [World.size_alloc] at this
  exact this.drew
theorem BoxAt.seven {W : World} {g : Nat} {a b c d e f i : Value} (h : BoxAt W g [a, b, c, d, e, f, i]) :
    W.cell? ⟨g, 0, none⟩ = some a ∧ W.cell? ⟨g, 1, none⟩ = some b ∧ W.cell? ⟨g, 2, none⟩ = some c ∧ W.cell? ⟨g, 3, none⟩ = some d ∧ W.cell? ⟨g, 4, none⟩ = some e ∧ W.cell? ⟨g, 5, none⟩ = some f ∧ W.cell? ⟨g, 6, none⟩ = some i ∧ (∀ o, W.frozen? ⟨g, o, none⟩ = false) ∧ g < W.heap.size :=
  ⟨h.1 0 _ rfl, h.1 1 _ rfl, h.1 2 _ rfl, h.1 3 _ rfl, h.1 4 _ rfl, h.1 5 _ rfl, h.1 6 _ rfl, h.2⟩
theorem after_store {K : Act → World → Prop} {a : Act} {w W0 : World} {g2 g3 : Nat} {A B cs : List Value} (h2 : BoxAt W0 g2 A) (h3 : BoxAt W0 g3 B) (hl : A.length = cs.length) (hne : g2 ≠ g3) (hb : Below w.heap.size w W0) (hg : w.heap.size ≤ g2)
    (h : ∀ V, BoxAt V g3 B → BoxAt V g2 cs → Below w.heap.size w V → K a V) : K a (W0.setCells g2 0 cs.toArray.toList) := by
  refine h _ ?_ ?_ ?_
  · exact h3.elsewhere hne _
  · exact h2.put 0 cs cs (by omega) (by rw [List.drop_eq_nil_of_le (by omega)]; simp)
  · exact Below.setCells hg _ _ _ hb
theorem there_first (w : World) (A : List Value) (ta : TypeId) (o : Obj) : ((w.alloc (.cells A.toArray ta)).alloc o).drew.there w.heap.size 0 A.length := by
  rw [World.there_drew]
  exact ((BoxAt.new w A ta).alloc o).there 0 _ (by simp)
theorem there_second (w : World) (A : List Value) (ta : TypeId) (o : Obj) : ((w.alloc o).alloc (.cells A.toArray ta)).drew.there (w.heap.size + 1) 0 A.length := by
  rw [World.there_drew]
  have := BoxAt.new (w.alloc o) A ta
  rw [World.size_alloc] at this
  exact this.there 0 _ (by simp)
theorem Kd.op {op m v lk r : Int} {pr : Option (Int × Int)} (h : Kd op m v lk r pr) : op = 16 ∨ op = 17 := by cases h <;> simp
set_option maxRecDepth 100000 in
set_option maxHeartbeats 8000000 in
theorem do_any (b : Nat → Nat) (op m v lk r : Int) (pr : Option (Int × Int)) (hk : Kd op m v lk r pr) (wk : Nat) (lv id ds : Int) (nm B : Value) (site : Int) (G A : Value) (pa : Int) (w : World)
    (h : BoxAt w wk (wkL 0 (.slice none 0 0) (pgV b) lv id ds nm B site op m G A v v pa su)) :
    Calls Tryz.prog 202 #[.pointer (some ⟨wk, 0, none⟩)] w (StepTo wk (pgV b) lv id ds nm B site op m G A lk r pa su pr w) := by
  have H := hide h; clear h
  obtain ⟨kf, kz⟩ := H.out.2
  have HR : Hid (∀ w' : World, Below w.heap.size w w' → (w'.rangeAt wk 45 (stL site op m) ∧ w'.rangeAt wk 21 (dcL b) ∧ Below w.heap.size w w')) := hide (fun w' hb => ⟨(H.out.below hb).sub 45 _ rfl, (H.out.below hb).sub 21 _ rfl, hb⟩)
  have Hk := hide hk
  have hop := hk.op
  clear hk
  go_enter Tryz.func202, Tryz.ntmps202
  go_upto_region 0 with (fail)
  go_cut [2] (fun t wx => ∃ g, t = .pointer (some ⟨g, 0, none⟩) ∧ wx.cell? ⟨g, 1, none⟩ = some (.int .i64 op) ∧ Below w.heap.size w wx)
  case first =>
    refine wp_region_held_drew (S := fun w' => w'.rangeAt wk 45 (stL site op m) ∧ w'.rangeAt wk 21 (dcL b) ∧ Below w.heap.size w w') (by kernel_rfl) ?_ (fun hHeld => ?_)
    · exact HR.out _ (Below.refl _ _).drew
    refine wpAnyH_take (i := 0) (v := ?_) rfl (by kernel_rfl) (by kernel_rfl) (by kernel_rfl) (fun _ _ _ h => h) (Or.inl ⟨by rfl, ?_⟩) (by assumption) ?_
    rotate_left 1
    · intro w2 hSw
      go_simp
      try with_reducible rfl
    try simp only [Act.put, List.setIfInBounds_toArray]
    refine wpAnyH_take (i := 1) (v := ?_) rfl (by kernel_rfl) (by kernel_rfl) (by kernel_rfl) (fun _ _ _ h => h) (Or.inl ⟨by rfl, ?_⟩) (by assumption) ?_
    rotate_left 1
    · intro w2 hSw
      go_simp
      try with_reducible rfl
    try simp only [Act.put]
    refine wpAnyH_take (i := 2) (v := ?_) rfl (by kernel_rfl) (by kernel_rfl) (by kernel_rfl) (fun _ _ _ h => h) (Or.inl ⟨by rfl, ?_⟩) (by assumption) ?_
    rotate_left 1
    · intro w2 hSw
      go_simp
      try with_reducible rfl
    try simp only [Act.put]
    refine wpAnyH_take (i := 3) rfl (by kernel_rfl) (by kernel_rfl) (by kernel_rfl) (fun _ _ _ h => h) (yieldsIf_load_mid (by rfl) 121 (.tmp 7) rfl wk 45 rfl (stL site op m) _ (fun w2 h2 => h2.1) Tryz.underlying121 rfl (by kernel_rfl)) (by assumption) ?_
    try simp only [Act.put]
    refine wpAnyH_take (i := 4) (v := ?_) rfl (by kernel_rfl) (by kernel_rfl) (by kernel_rfl) (fun _ _ _ h => h) (Or.inl ⟨by rfl, ?_⟩) (by assumption) ?_
    rotate_left 1
    · intro w2 hSw
      go_simp
      try with_reducible rfl
    try simp only [Act.put]
    refine wpAnyH_take (i := 5) (v := ?_) rfl (by kernel_rfl) (by kernel_rfl) (by kernel_rfl) (fun _ _ _ h => h) (Or.inl ⟨by rfl, ?_⟩) (by assumption) ?_
    rotate_left 1
    · intro w2 hSw
      go_simp
      try with_reducible rfl
    try simp only [Act.put]
    refine wpAnyH_take (i := 6) (v := ?_) rfl (by kernel_rfl) (by kernel_rfl) (by kernel_rfl) (fun _ _ _ h => h) (Or.inl ⟨by rfl, ?_⟩) (by assumption) ?_
    rotate_left 1
    · intro w2 hSw
      go_simp
      try with_reducible rfl
    try simp only [Act.put]
    refine wpAnyH_take (i := 7) (v := ?_) rfl (by kernel_rfl) (by kernel_rfl) (by kernel_rfl) (fun _ _ _ h => h) (Or.inl ⟨by rfl, ?_⟩) (by assumption) ?_
    rotate_left 1
    · intro w2 hSw
      go_simp
      try with_reducible rfl
    try simp only [Act.put]
    refine wpAnyH_take (i := 8) rfl (by kernel_rfl) (by kernel_rfl) (by kernel_rfl) (fun _ _ _ h => h) (yieldsIf_load_mid (by rfl) 44 (.tmp 12) rfl wk 21 rfl (dcL b) _ (fun w2 h2 => h2.2.1) Tryz.underlying44 rfl (by kernel_rfl)) (by assumption) ?_
    try simp only [Act.put]
    refine wpAnyH_ready (rs := [9, 10]) (by kernel_rfl) (by simp) ?_
    refine AllReadyH.cons rfl (fun K hK => ?_) ?_
    · go_simp
      refine hK.out _ _ ?_ (fun hHeld => ?_)
      · (refine HR.out _ ?_; first | with_reducible exact hVb | with_reducible exact hHeld.2.2.drew | with_reducible exact hHeld.2.2 | exact (by repeat (first | with_reducible exact hVb | with_reducible exact Below.refl _ _ | with_reducible refine Below.setCell ?_ (by simp <;> omega) _ | with_reducible refine below_drewN ?_ _ | with_reducible refine Below.drew ?_ | with_reducible refine Below.alloc ?_ (by simp <;> omega) _ | with_reducible refine Below.setCell ?_ (by simp <;> omega) _ | with_reducible refine Below.alloc ?_ (by simp <;> omega) _ | with_reducible refine Below.setCell ?_ (by omega) _ | with_reducible refine Below.alloc ?_ (by omega) _ | omega | (simp; done))) | exact (by repeat (first | with_reducible exact hHeld.2.2 | with_reducible exact Below.refl _ _ | with_reducible refine Below.setCell ?_ (by simp <;> omega) _ | with_reducible refine below_drewN ?_ _ | with_reducible refine Below.drew ?_ | with_reducible refine Below.alloc ?_ (by simp <;> omega) _ | with_reducible refine Below.setCell ?_ (by simp <;> omega) _ | with_reducible refine Below.alloc ?_ (by simp <;> omega) _ | with_reducible refine Below.setCell ?_ (by omega) _ | with_reducible refine Below.alloc ?_ (by omega) _ | omega | (simp; done))))
      clear hK K
      try simp only [Act.put, List.setIfInBounds_toArray, List.set_cons_zero, List.set_cons_succ]
      refine wpAnyH_ready (rs := [10]) (by kernel_rfl) (by simp) ?_
      refine AllReadyH.cons rfl (fun K hK => ?_) ?_
      · go_simp
        refine hK.out _ _ ?_ (fun hHeld => ?_)
        · (refine HR.out _ ?_; first | with_reducible exact hVb | with_reducible exact hHeld.2.2.drew | with_reducible exact hHeld.2.2 | exact (by repeat (first | with_reducible exact hVb | with_reducible exact Below.refl _ _ | with_reducible refine Below.setCell ?_ (by simp <;> omega) _ | with_reducible refine below_drewN ?_ _ | with_reducible refine Below.drew ?_ | with_reducible refine Below.alloc ?_ (by simp <;> omega) _ | with_reducible refine Below.setCell ?_ (by simp <;> omega) _ | with_reducible refine Below.alloc ?_ (by simp <;> omega) _ | with_reducible refine Below.setCell ?_ (by omega) _ | with_reducible refine Below.alloc ?_ (by omega) _ | omega | (simp; done))) | exact (by repeat (first | with_reducible exact hHeld.2.2 | with_reducible exact Below.refl _ _ | with_reducible refine Below.setCell ?_ (by simp <;> omega) _ | with_reducible refine below_drewN ?_ _ | with_reducible refine Below.drew ?_ | with_reducible refine Below.alloc ?_ (by simp <;> omega) _ | with_reducible refine Below.setCell ?_ (by simp <;> omega) _ | with_reducible refine Below.alloc ?_ (by simp <;> omega) _ | with_reducible refine Below.setCell ?_ (by omega) _ | with_reducible refine Below.alloc ?_ (by omega) _ | omega | (simp; done))))
        clear hK K
        try simp only [Act.put, List.setIfInBounds_toArray, List.set_cons_zero, List.set_cons_succ]
        refine wpAnyH_ready (rs := [11]) (by kernel_rfl) (by simp) ?_
        refine AllReadyH.cons rfl (fun K hK => ?_) ?_
        · refine step_store_box (ops := _) rfl 121 (.tmp 2) (.tmp 8) rfl _ 0 (stL site op m).toArray rfl rfl ?_ (by kernel_rfl) (all_oneCell_toArray (by simp [stL, Value.oneCell'])) ?_
          · first | exact there_first _ _ _ _ | exact there_second _ _ _ _
          first
            | refine after_store (w := w) (box_first w stZ _ _) (box_second w dcZ _ _) rfl (by omega) (by exact (by repeat (first | with_reducible exact Below.refl _ _ | with_reducible refine Below.setCell ?_ (by simp <;> omega) _ | with_reducible refine below_drewN ?_ _ | with_reducible refine Below.drew ?_ | with_reducible refine Below.alloc ?_ (by simp <;> omega) _ | with_reducible refine Below.setCell ?_ (by simp <;> omega) _ | with_reducible refine Below.alloc ?_ (by simp <;> omega) _ | omega | (simp; done)))) (by omega) (fun V hV3 hV2 hVb => ?_)
            | refine after_store (w := w) (box_second w stZ _ _) (box_first w dcZ _ _) rfl (by omega) (by exact (by repeat (first | with_reducible exact Below.refl _ _ | with_reducible refine Below.setCell ?_ (by simp <;> omega) _ | with_reducible refine below_drewN ?_ _ | with_reducible refine Below.drew ?_ | with_reducible refine Below.alloc ?_ (by simp <;> omega) _ | with_reducible refine Below.setCell ?_ (by simp <;> omega) _ | with_reducible refine Below.alloc ?_ (by simp <;> omega) _ | omega | (simp; done)))) (by omega) (fun V hV3 hV2 hVb => ?_)
          obtain ⟨x0, x1, x2, x3, x4, x5, x6, xf, xz⟩ := hV3.seven
          have y1 := hV2.1 1 _ rfl
          refine hK.out _ _ ?_ (fun hHeld => ?_)
          · (refine HR.out _ ?_; first | with_reducible exact hVb | with_reducible exact hHeld.2.2.drew | with_reducible exact hHeld.2.2 | exact (by repeat (first | with_reducible exact hVb | with_reducible exact Below.refl _ _ | with_reducible refine Below.setCell ?_ (by simp <;> omega) _ | with_reducible refine below_drewN ?_ _ | with_reducible refine Below.drew ?_ | with_reducible refine Below.alloc ?_ (by simp <;> omega) _ | with_reducible refine Below.setCell ?_ (by simp <;> omega) _ | with_reducible refine Below.alloc ?_ (by simp <;> omega) _ | with_reducible refine Below.setCell ?_ (by omega) _ | with_reducible refine Below.alloc ?_ (by omega) _ | omega | (simp; done))) | exact (by repeat (first | with_reducible exact hHeld.2.2 | with_reducible exact Below.refl _ _ | with_reducible refine Below.setCell ?_ (by simp <;> omega) _ | with_reducible refine below_drewN ?_ _ | with_reducible refine Below.drew ?_ | with_reducible refine Below.alloc ?_ (by simp <;> omega) _ | with_reducible refine Below.setCell ?_ (by simp <;> omega) _ | with_reducible refine Below.alloc ?_ (by simp <;> omega) _ | with_reducible refine Below.setCell ?_ (by omega) _ | with_reducible refine Below.alloc ?_ (by omega) _ | omega | (simp; done))))
          clear hK K
          try simp only [Act.put, List.setIfInBounds_toArray]
          refine wpAnyH_ready (rs := [12]) (by kernel_rfl) (by simp) ?_
          refine AllReadyH.cons rfl (fun K hK => ?_) ?_
          · simp only [dcL]; go_simp
            refine hK.out _ _ ?_ (fun hHeld => ?_)
            · (refine HR.out _ ?_; first | with_reducible exact hVb | with_reducible exact hHeld.2.2.drew | with_reducible exact hHeld.2.2 | exact (by repeat (first | with_reducible exact hVb | with_reducible exact Below.refl _ _ | with_reducible refine Below.setCell ?_ (by simp <;> omega) _ | with_reducible refine below_drewN ?_ _ | with_reducible refine Below.drew ?_ | with_reducible refine Below.alloc ?_ (by simp <;> omega) _ | with_reducible refine Below.setCell ?_ (by simp <;> omega) _ | with_reducible refine Below.alloc ?_ (by simp <;> omega) _ | with_reducible refine Below.setCell ?_ (by omega) _ | with_reducible refine Below.alloc ?_ (by omega) _ | omega | (simp; done))) | exact (by repeat (first | with_reducible exact hHeld.2.2 | with_reducible exact Below.refl _ _ | with_reducible refine Below.setCell ?_ (by simp <;> omega) _ | with_reducible refine below_drewN ?_ _ | with_reducible refine Below.drew ?_ | with_reducible refine Below.alloc ?_ (by simp <;> omega) _ | with_reducible refine Below.setCell ?_ (by simp <;> omega) _ | with_reducible refine Below.alloc ?_ (by simp <;> omega) _ | with_reducible refine Below.setCell ?_ (by omega) _ | with_reducible refine Below.alloc ?_ (by omega) _ | omega | (simp; done))))
            clear hK K
            try simp only [Act.put, List.setIfInBounds_toArray, List.set_cons_zero, List.set_cons_succ]
            refine wpAnyH_done (by kernel_rfl) ?_ _
            go_wp2_with fail
            go_meet
            refine ⟨_, rfl, ?_, hHeld.2.2⟩
            go_simp
          exact AllReadyH.nil
        exact AllReadyH.nil
      exact AllReadyH.nil
    refine AllReadyH.cons rfl (fun K hK => ?_) ?_
    · go_simp
      refine hK.out _ _ ?_ (fun hHeld => ?_)
      · (refine HR.out _ ?_; first | with_reducible exact hVb | with_reducible exact hHeld.2.2.drew | with_reducible exact hHeld.2.2 | exact (by repeat (first | with_reducible exact hVb | with_reducible exact Below.refl _ _ | with_reducible refine Below.setCell ?_ (by simp <;> omega) _ | with_reducible refine below_drewN ?_ _ | with_reducible refine Below.drew ?_ | with_reducible refine Below.alloc ?_ (by simp <;> omega) _ | with_reducible refine Below.setCell ?_ (by simp <;> omega) _ | with_reducible refine Below.alloc ?_ (by simp <;> omega) _ | with_reducible refine Below.setCell ?_ (by omega) _ | with_reducible refine Below.alloc ?_ (by omega) _ | omega | (simp; done))) | exact (by repeat (first | with_reducible exact hHeld.2.2 | with_reducible exact Below.refl _ _ | with_reducible refine Below.setCell ?_ (by simp <;> omega) _ | with_reducible refine below_drewN ?_ _ | with_reducible refine Below.drew ?_ | with_reducible refine Below.alloc ?_ (by simp <;> omega) _ | with_reducible refine Below.setCell ?_ (by simp <;> omega) _ | with_reducible refine Below.alloc ?_ (by simp <;> omega) _ | with_reducible refine Below.setCell ?_ (by omega) _ | with_reducible refine Below.alloc ?_ (by omega) _ | omega | (simp; done))))
      clear hK K
      try simp only [Act.put, List.setIfInBounds_toArray, List.set_cons_zero, List.set_cons_succ]
      refine wpAnyH_ready (rs := [9]) (by kernel_rfl) (by simp) ?_
      refine AllReadyH.cons rfl (fun K hK => ?_) ?_
      · go_simp
        refine hK.out _ _ ?_ (fun hHeld => ?_)
        · (refine HR.out _ ?_; first | with_reducible exact hVb | with_reducible exact hHeld.2.2.drew | with_reducible exact hHeld.2.2 | exact (by repeat (first | with_reducible exact hVb | with_reducible exact Below.refl _ _ | with_reducible refine Below.setCell ?_ (by simp <;> omega) _ | with_reducible refine below_drewN ?_ _ | with_reducible refine Below.drew ?_ | with_reducible refine Below.alloc ?_ (by simp <;> omega) _ | with_reducible refine Below.setCell ?_ (by simp <;> omega) _ | with_reducible refine Below.alloc ?_ (by simp <;> omega) _ | with_reducible refine Below.setCell ?_ (by omega) _ | with_reducible refine Below.alloc ?_ (by omega) _ | omega | (simp; done))) | exact (by repeat (first | with_reducible exact hHeld.2.2 | with_reducible exact Below.refl _ _ | with_reducible refine Below.setCell ?_ (by simp <;> omega) _ | with_reducible refine below_drewN ?_ _ | with_reducible refine Below.drew ?_ | with_reducible refine Below.alloc ?_ (by simp <;> omega) _ | with_reducible refine Below.setCell ?_ (by simp <;> omega) _ | with_reducible refine Below.alloc ?_ (by simp <;> omega) _ | with_reducible refine Below.setCell ?_ (by omega) _ | with_reducible refine Below.alloc ?_ (by omega) _ | omega | (simp; done))))
        clear hK K
        try simp only [Act.put, List.setIfInBounds_toArray, List.set_cons_zero, List.set_cons_succ]
        refine wpAnyH_ready (rs := [11]) (by kernel_rfl) (by simp) ?_
        refine AllReadyH.cons rfl (fun K hK => ?_) ?_
        · refine step_store_box (ops := _) rfl 121 (.tmp 2) (.tmp 8) rfl _ 0 (stL site op m).toArray rfl rfl ?_ (by kernel_rfl) (all_oneCell_toArray (by simp [stL, Value.oneCell'])) ?_
          · first | exact there_first _ _ _ _ | exact there_second _ _ _ _
          first
            | refine after_store (w := w) (box_first w stZ _ _) (box_second w dcZ _ _) rfl (by omega) (by exact (by repeat (first | with_reducible exact Below.refl _ _ | with_reducible refine Below.setCell ?_ (by simp <;> omega) _ | with_reducible refine below_drewN ?_ _ | with_reducible refine Below.drew ?_ | with_reducible refine Below.alloc ?_ (by simp <;> omega) _ | with_reducible refine Below.setCell ?_ (by simp <;> omega) _ | with_reducible refine Below.alloc ?_ (by simp <;> omega) _ | omega | (simp; done)))) (by omega) (fun V hV3 hV2 hVb => ?_)
            | refine after_store (w := w) (box_second w stZ _ _) (box_first w dcZ _ _) rfl (by omega) (by exact (by repeat (first | with_reducible exact Below.refl _ _ | with_reducible refine Below.setCell ?_ (by simp <;> omega) _ | with_reducible refine below_drewN ?_ _ | with_reducible refine Below.drew ?_ | with_reducible refine Below.alloc ?_ (by simp <;> omega) _ | with_reducible refine Below.setCell ?_ (by simp <;> omega) _ | with_reducible refine Below.alloc ?_ (by simp <;> omega) _ | omega | (simp; done)))) (by omega) (fun V hV3 hV2 hVb => ?_)
          obtain ⟨x0, x1, x2, x3, x4, x5, x6, xf, xz⟩ := hV3.seven
          have y1 := hV2.1 1 _ rfl
          refine hK.out _ _ ?_ (fun hHeld => ?_)
          · (refine HR.out _ ?_; first | with_reducible exact hVb | with_reducible exact hHeld.2.2.drew | with_reducible exact hHeld.2.2 | exact (by repeat (first | with_reducible exact hVb | with_reducible exact Below.refl _ _ | with_reducible refine Below.setCell ?_ (by simp <;> omega) _ | with_reducible refine below_drewN ?_ _ | with_reducible refine Below.drew ?_ | with_reducible refine Below.alloc ?_ (by simp <;> omega) _ | with_reducible refine Below.setCell ?_ (by simp <;> omega) _ | with_reducible refine Below.alloc ?_ (by simp <;> omega) _ | with_reducible refine Below.setCell ?_ (by omega) _ | with_reducible refine Below.alloc ?_ (by omega) _ | omega | (simp; done))) | exact (by repeat (first | with_reducible exact hHeld.2.2 | with_reducible exact Below.refl _ _ | with_reducible refine Below.setCell ?_ (by simp <;> omega) _ | with_reducible refine below_drewN ?_ _ | with_reducible refine Below.drew ?_ | with_reducible refine Below.alloc ?_ (by simp <;> omega) _ | with_reducible refine Below.setCell ?_ (by simp <;> omega) _ | with_reducible refine Below.alloc ?_ (by simp <;> omega) _ | with_reducible refine Below.setCell ?_ (by omega) _ | with_reducible refine Below.alloc ?_ (by omega) _ | omega | (simp; done))))
          clear hK K
          try simp only [Act.put, List.setIfInBounds_toArray]
          refine wpAnyH_ready (rs := [12]) (by kernel_rfl) (by simp) ?_
          refine AllReadyH.cons rfl (fun K hK => ?_) ?_
          · simp only [dcL]; go_simp
            refine hK.out _ _ ?_ (fun hHeld => ?_)
            · (refine HR.out _ ?_; first | with_reducible exact hVb | with_reducible exact hHeld.2.2.drew | with_reducible exact hHeld.2.2 | exact (by repeat (first | with_reducible exact hVb | with_reducible exact Below.refl _ _ | with_reducible refine Below.setCell ?_ (by simp <;> omega) _ | with_reducible refine below_drewN ?_ _ | with_reducible refine Below.drew ?_ | with_reducible refine Below.alloc ?_ (by simp <;> omega) _ | with_reducible refine Below.setCell ?_ (by simp <;> omega) _ | with_reducible refine Below.alloc ?_ (by simp <;> omega) _ | with_reducible refine Below.setCell ?_ (by omega) _ | with_reducible refine Below.alloc ?_ (by omega) _ | omega | (simp; done))) | exact (by repeat (first | with_reducible exact hHeld.2.2 | with_reducible exact Below.refl _ _ | with_reducible refine Below.setCell ?_ (by simp <;> omega) _ | with_reducible refine below_drewN ?_ _ | with_reducible refine Below.drew ?_ | with_reducible refine Below.alloc ?_ (by simp <;> omega) _ | with_reducible refine Below.setCell ?_ (by simp <;> omega) _ | with_reducible refine Below.alloc ?_ (by simp <;> omega) _ | with_reducible refine Below.setCell ?_ (by omega) _ | with_reducible refine Below.alloc ?_ (by omega) _ | omega | (simp; done))))
            clear hK K
            try simp only [Act.put, List.setIfInBounds_toArray, List.set_cons_zero, List.set_cons_succ]
            refine wpAnyH_done (by kernel_rfl) ?_ _
            go_wp2_with fail
            go_meet
            refine ⟨_, rfl, ?_, hHeld.2.2⟩
            go_simp
          exact AllReadyH.nil
        exact AllReadyH.nil
      exact AllReadyH.nil
    exact AllReadyH.nil
  case rest =>
    obtain ⟨g, rfl, hc, hb⟩ := hcut
    obtain ⟨V, hV⟩ : ∃ V : World, V = wc := ⟨_, rfl⟩
    rw [← hV] at hc hb ⊢
    have HB := hide (H.out.below hb)
    have Hb := hide hb
    clear hV hb
    rcases hop with rfl | rfl
    all_goals
      go_wp2_with (go_at_call 240; refine (lock_any (pgV b) su _ m v lk r pr Hk.out wk lv id ds nm B site G A pa _ HB.out).mono ?_; rintro e w1 ⟨ps, rfl, h1, h2, h3⟩; have H1 := hide h1; have H2 := hide h2; have H3 := hide h3; clear h1 h2 h3)
      go_returns
      exact ⟨ps, rfl, H1.out, H2.out.mono Hb.out.size, (Below.but Hb.out _).trans H3.out⟩
end Go.Proofs.YthhfakkfdohcpaaGreat
/- The step's own recovery finds nothing. No condition. -/
namespace Go.Proofs.YthhfakkfdohcpaaGreat
open Go.RowKit
theorem catch_idle (q : Addr) (w : World) :
    CallsD Tryz.prog 201 #[.pointer (some q)] .returning w fun e u' w' => e = .returned (.tuple #[]) ∧ u' = .returning ∧ w' = w := by
  refine callsD_of_wpS Tryz.func201 rfl fun c₀ cs hu => ?_
  apply wpS_seq
  apply wpS_region
  simp [wpOpsS, go_sem, recoverD, hu, Tryz.ntmps201, Exit.thenS]
  refine wpS_of_wp ?_
  go_wp2
  cases c₀
  simp_all [bodyPostS, results, Tryz.results201]
set_option maxRecDepth 100000 in
set_option maxHeartbeats 4000000 in
theorem goes_any (su : Value) (b : Nat → Nat) (op m v lk r : Int) (pr : Option (Int × Int)) (hk : Kd op m v lk r pr) (wk : Nat) (lv id ds : Int) (nm B : Value) (site : Int) (G A : Value) (pa : Int) (w : World)
    (h : BoxAt w wk (wkL 0 (.slice none 0 0) (pgV b) lv id ds nm B site op m G A v v pa su)) :
    Calls Tryz.prog 169 #[.pointer (some ⟨wk, 0, none⟩)] w (StepTo wk (pgV b) lv id ds nm B site op m G A lk r pa su pr w) := by
  have hmf : ∀ (fn : Fn) (first cap : Array Value) (w : World), (Instr.makeFunc fn first cap).run Tryz.prog w = .ok (.func fn first cap) w := fun _ _ _ _ => rfl
  have H := hide h; clear h
  have Hk := hide hk; clear hk
  go_enter_defers Tryz.func169, Tryz.ntmps169
  go_wp2_with (go_at_call 202; refine (do_any su b op m v lk r pr Hk.out wk lv id ds nm B site G A pa _ (H.out.alloc _)).mono ?_; rintro e w1 ⟨ps, rfl, h1, h2, h3⟩; have H1 := hide h1; have H2 := hide h2; have H3 := hide h3; clear h1 h2 h3)
  refine leaves_cons (f := 201) (args := #[.pointer (some ⟨w.heap.size, 0, none⟩)]) (by simp) (by simp [go_sem]) ?_
  refine (catch_idle ⟨w.heap.size, 0, none⟩ _).mono ?_
  rintro e u' w'' ⟨rfl, rfl, rfl⟩
  refine ⟨_, results_none rfl _ _ _, ps, rfl, H1.out, H2.out.mono (by simp), ?_⟩
  exact (Below.but ((Below.refl _ w).alloc (Nat.le_refl _) _) _).trans H3.out
end Go.Proofs.YthhfakkfdohcpaaGreat
/- Gaps and facts of definitions that have no variables. No condition. -/
namespace Go.Proofs.YthhfakkfdohcpaaGreat
open Go.RowKit

/-- A slice of no element. -/
def Emp (v : Value) : Prop := v = .slice none 0 0 ∨ ∃ b off c, v = .slice (some ⟨b, off, none⟩) 0 c
theorem info_parts2 {t : TypeId} {z : Value} {s b : Nat} (h : (Tryz.prog.info? t).map (fun i => (i.zero, i.size, i.bytes)) = some (some z, s, b)) : ∃ i, Tryz.prog.info? t = some i ∧ i.zero = some z ∧ i.size = s ∧ i.bytes = b := by
  cases hi : Tryz.prog.info? t with
  | none => rw [hi] at h; simp at h
  | some i =>
    rw [hi] at h
    simp only [Option.map_some, Option.some.injEq, Prod.mk.injEq] at h
    exact ⟨i, rfl, h.1, h.2.1, h.2.2⟩
theorem clone_ii (v : Value) (h : Emp v) (w : World) : Calls Tryz.prog 245 #[v] w fun e w' => ∃ v', e = .returned v' ∧ Emp v' ∧ Below w.heap.size w w' := by
  rcases h with rfl | ⟨b, off, c, rfl⟩
  · refine (Tryz.slices_Clone_nil_f245 0 0 w).mono ?_
    rintro e w' ⟨rfl, rfl⟩
    exact ⟨_, rfl, .inl rfl, Below.refl _ _⟩
  · obtain ⟨i, hi, h0, h1, h2⟩ := info_parts2 (show (Tryz.prog.info? 42).map (fun i => (i.zero, i.size, i.bytes)) = some (some (.slice none 0 0), 1, 24) by kernel_rfl)
    refine (Tryz.slices_Clone_f245 i _ 1 24 hi h0 h1 h2 rfl (by decide) (fun _ => by kernel_rfl) b off 0 c [] w rfl (Nat.zero_le _) (by simp) (fun j u h => by simp at h) (fun u h => by simp at h)).mono ?_
    rintro e w' ⟨v', rfl, ho, hn, hb⟩
    refine ⟨v', rfl, ?_, hb⟩
    rcases ho.2 with ⟨rfl, -⟩ | ⟨g, cap, cur, rfl, -⟩
    · exact .inl rfl
    · exact .inr ⟨_, _, _, rfl⟩
set_option maxHeartbeats 400000 in
theorem gap_clone (v : Value) (h : Emp v) (w : World) : Calls Tryz.prog 210 #[v] w fun e w' => ∃ v', e = .returned v' ∧ Emp v' ∧ Below w.heap.size w w' := by
  go_enter Tryz.func210, Tryz.ntmps210
  go_upto_region 1 with (fail)
  go_wp2_with fail
  refine (clone_ii v h _).mono ?_
  rintro e w1 ⟨v', rfl, h', hb1⟩
  rcases h' with rfl | ⟨b, off, c, rfl⟩
  · go_wp2_with fail
    go_rounds 1
    go_ret
    exact ⟨_, rfl, .inl rfl, hb1⟩
  · go_wp2_with fail
    go_rounds 1
    go_ret
    exact ⟨_, rfl, .inr ⟨_, _, _, rfl⟩, hb1⟩
set_option maxHeartbeats 400000 in
theorem gap_join (u v : Value) (hu : Emp u) (w : World) : Calls Tryz.prog 143 #[u, v] w fun e w' => ∃ v', e = .returned v' ∧ Emp v' ∧ Below w.heap.size w w' := by
  have each : ∀ f w, Calls Tryz.prog 172 #[u, v, f] w fun e w' => ∃ v', e = .returned v' ∧ Emp v' ∧ Below w.heap.size w w' := by
    intro f w
    go_enter Tryz.func172, Tryz.ntmps172
    go_upto_region 1 with (fail)
    go_wp2_with fail
    refine (gap_clone u hu _).mono ?_
    rintro e w1 ⟨v', rfl, h', hb1⟩
    rcases h' with rfl | ⟨b, off, c, rfl⟩
    · go_wp2_with fail
      go_rounds 1
      go_ret
      exact ⟨_, rfl, .inl rfl, hb1⟩
    · go_wp2_with fail
      go_rounds 1
      go_ret
      exact ⟨_, rfl, .inr ⟨_, _, _, rfl⟩, hb1⟩
  go_enter Tryz.func143, Tryz.ntmps143
  go_upto_region 1 with (fail)
  go_wp2_with fail
  refine (each _ _).mono ?_
  rintro e w1 ⟨v', rfl, h', hb1⟩
  go_wp2_with fail
  go_ret
  exact ⟨_, rfl, h', hb1⟩
end Go.Proofs.YthhfakkfdohcpaaGreat
