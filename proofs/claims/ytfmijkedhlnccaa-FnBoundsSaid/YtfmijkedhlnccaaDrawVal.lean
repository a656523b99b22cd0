/- Draws of values and edges: l04Value, l04Any, l05Edges, l05AnyEdges, l08Base. -/
import Derived.Test.YtfmijkedhlnccaaDrawB
import Derived.Test.YtfmijkedhlnccaaVal
namespace Go.Proofs.Ytfmijkedhlnccaa
open Go.RowKit Go.ChangeShapes Go.WideShapes
set_option linter.unusedVariables false
set_option linter.unusedSimpArgs false

abbrev k_2 : List Bool := [true, true]
abbrev k_4 : List Bool := [true, true, true, true]
set_option maxRecDepth 100000 in
set_option maxHeartbeats 2000000 in
theorem l04Value_c (p : Nat) (w : World) (hc : Cur w p) :
    Calls Try.prog 61 #[.pointer (some ⟨p, 0, none⟩)] w fun r w' => ∃ m n, r = .returned (valV m n) ∧ Cur w' p ∧ CB p w w' := by
  have hlt := hc.lt
  go_enter Try.func61, Try.ntmps61
  go_wp2_with fail
  refine (l01Below_c _ _ _ (hc.keep ((Bel.refl _).alloc _))).mono ?_; rintro e w1 ⟨x, rfl, hx, hc1, hb1⟩
  have hB2 : BX w1 w.heap.size k_2 := (BX.new w k_2 Rec.zero 25).cb hb1 (by omega)
  have hcb1 : CB p w w1 := ((CB.refl p w).alloc _).trans hb1
  clear hb1
  by_cases h0 : x = 0
  · subst h0
    go_wp2_with fail
    refine (pickLit_c _ [0, 10, 25, 50, 100, 150, 33] w1 _ hc1 (by simp) (by simp) (by simp)).mono ?_; rintro e w2 ⟨z, rfl, hz, hc2, hb2⟩
    have hB3 := hB2.cb hb2 (by omega)
    have hcb2 := hcb1.trans hb2
    obtain ⟨n0, x0⟩ := hB3.cellI (j := 0) rfl
    obtain ⟨n1, x1⟩ := hB3.cellI (j := 1) rfl
    have f0 := hB3.2.2 0
    have f1 := hB3.2.2 1
    go_wp2_with fail
    exact bodyPost_ret (v := valV (2) (z)) (by simp [results, Try.results61, go_sem, x0, x1]) rfl ⟨_, _, rfl, (hc2.setNew (by omega) _ _).setNew (by omega) _ _, (hcb2.setNew (Nat.le_refl _) _ _).setNew (Nat.le_refl _) _ _⟩
  · by_cases h1 : x = 1 ∨ x = 2
    · rcases h1 with rfl | rfl
      all_goals
        go_wp2_with fail
        refine (l01Below_c _ _ _ hc1).mono ?_; rintro e w2 ⟨y, rfl, hy, hc2, hb2⟩
        have hB3 := hB2.cb hb2 (by omega)
        have hcb2 := hcb1.trans hb2
        go_wp2_with fail
        refine (pickLit_c _ [0, 64, 100, 640, 1000, 33, y] w2 _ hc2 (by simp) (by simp) (by simp)).mono ?_; rintro e w3 ⟨z, rfl, hz, hc3, hb3⟩
        have hB4 := hB3.cb hb3 (by omega)
        have hcb3 := hcb2.trans hb3
        obtain ⟨n0, x0⟩ := hB4.cellI (j := 0) rfl
        obtain ⟨n1, x1⟩ := hB4.cellI (j := 1) rfl
        have f0 := hB4.2.2 0
        have f1 := hB4.2.2 1
        go_wp2_with fail
        exact bodyPost_ret (v := valV (1) (z)) (by simp [results, Try.results61, go_sem, x0, x1]) rfl ⟨_, _, rfl, (hc3.setNew (by omega) _ _).setNew (by omega) _ _, (hcb3.setNew (Nat.le_refl _) _ _).setNew (Nat.le_refl _) _ _⟩
    · have h1a : ¬ x = 1 := fun e => h1 (.inl e)
      have h2a : ¬ x = 2 := fun e => h1 (.inr e)
      clear h1
      obtain ⟨n0, x0⟩ := hB2.cellI (j := 0) rfl
      obtain ⟨n1, x1⟩ := hB2.cellI (j := 1) rfl
      have f0 := hB2.2.2 0
      have f1 := hB2.2.2 1
      go_wp2_with fail
      exact bodyPost_ret (v := valV (0) (0)) (by simp [results, Try.results61, go_sem, x0, x1]) rfl ⟨_, _, rfl, (hc1.setNew (by omega) _ _).setNew (by omega) _ _, (hcb1.setNew (Nat.le_refl _) _ _).setNew (Nat.le_refl _) _ _⟩
set_option maxRecDepth 100000 in
set_option maxHeartbeats 2000000 in
theorem l04Any_c (p : Nat) (w : World) (hc : Cur w p) :
    Calls Try.prog 45 #[.pointer (some ⟨p, 0, none⟩)] w fun r w' => ∃ m n, r = .returned (valV m n) ∧ Cur w' p ∧ CB p w w' := by
  have hlt := hc.lt
  go_enter Try.func45, Try.ntmps45
  go_wp2_with fail
  refine (l04Value_c _ _ (hc.keep ((Bel.refl _).alloc _))).mono ?_; rintro e w1 ⟨m, n, rfl, hc1, hb1⟩
  have hB2 : BX w1 w.heap.size k_2 := (BX.new w k_2 Rec.zero 25).cb hb1 (by omega)
  have hcb1 : CB p w w1 := ((CB.refl p w).alloc _).trans hb1
  have hl2 := hB2.1
  have hI : It k_2 w (w1.alloc (.cells (rcells k_2 ⟨fun i => if i = 0 then m else n, fun _ => false⟩).toArray 25)) p w.heap.size w1.heap.size :=
    ⟨hc1.keep ((Bel.refl _).alloc _), hcb1.alloc _, Nat.le_refl _, hcb1.sz, hlt, by omega, hB2.keep ((Bel.refl _).alloc _), BX.new w1 k_2 _ 25⟩
  clear hB2 hc1 hcb1 hb1
  go_wp2_with fail
  refine (l01Below_c _ _ _ hI.cur).mono ?_; rintro e w3 ⟨x, rfl, hx, hc3, hb3⟩
  have hK := hI.go hc3 hb3
  clear hI hc3 hb3
  obtain ⟨g2, hg2⟩ : ∃ g, w.heap.size = g := ⟨_, rfl⟩
  obtain ⟨g3, hg3⟩ : ∃ g, w1.heap.size = g := ⟨_, rfl⟩
  rw [hg2, hg3] at hK ⊢
  rw [hg2] at hlt hl2
  by_cases e0 : x = 0
  · subst e0
    go_wp2_with fail
    refine (l01Below_c _ _ _ hK.cur).mono ?_; rintro e w4 ⟨y, rfl, hy, hc4, hb4⟩
    have hy0 := hy.1
    have hy1 := hy.2.1 (by omega)
    have hJ := hK.go hc4 hb4
    obtain ⟨n4, hn4⟩ := hJ.b3.cellI (j := 0) rfl
    have hf4 := hJ.b3.2.2 0
    have hI := hJ.setI (j := 0) rfl (y - 1)
    clear hc4 hb4 hK hJ hy
    have hne := hI.ne
    have hne2 : ¬ g3 = g2 := by omega
    obtain ⟨hl3, ⟨r, hr⟩, hf3⟩ := hI.b3
    obtain ⟨hl2, ⟨r2, hr2⟩, hf2⟩ := hI.b2
    have x0 := hr 0 _ rfl
    have x1 := hr 1 _ rfl
    have y0 := hr2 0 _ rfl
    have y1 := hr2 1 _ rfl
    have f0 := hf2 0
    have f1 := hf2 1
    have HJ := Lib.hid hI
    clear hr hr2 hf3 hf2 hI
    go_wp2_with fail
    have hp2 : p < g2 := by have := HJ.out.lo2; have := HJ.out.plt; omega
    refine bodyPost_ret (v := valV (r.s 0) (r.s 1)) (by simp [results, Try.results45, go_sem, y0, y1, hne, hne2]) rfl ⟨_, _, rfl, ?_, ?_⟩
    · repeat (refine Cur.setNew ?_ hp2 _ _)
      exact HJ.out.cur
    · repeat (refine CB.setNew ?_ HJ.out.lo2 _ _)
      exact HJ.out.cb
  · by_cases e1 : x = 1
    · subst e1
      go_wp2_with fail
      refine (l02Int_c _ _ hK.cur).mono ?_; rintro e w4 ⟨y, rfl, hy, hc4, hb4⟩
      have hJ := hK.go hc4 hb4
      obtain ⟨n4, hn4⟩ := hJ.b3.cellI (j := 1) rfl
      have hf4 := hJ.b3.2.2 1
      have hI := hJ.setI (j := 1) rfl y
      clear hc4 hb4 hK hJ
      have hne := hI.ne
      have hne2 : ¬ g3 = g2 := by omega
      obtain ⟨hl3, ⟨r, hr⟩, hf3⟩ := hI.b3
      obtain ⟨hl2, ⟨r2, hr2⟩, hf2⟩ := hI.b2
      have x0 := hr 0 _ rfl
      have x1 := hr 1 _ rfl
      have y0 := hr2 0 _ rfl
      have y1 := hr2 1 _ rfl
      have f0 := hf2 0
      have f1 := hf2 1
      have HJ := Lib.hid hI
      clear hr hr2 hf3 hf2 hI
      go_wp2_with fail
      have hp2 : p < g2 := by have := HJ.out.lo2; have := HJ.out.plt; omega
      refine bodyPost_ret (v := valV (r.s 0) (r.s 1)) (by simp [results, Try.results45, go_sem, y0, y1, hne, hne2]) rfl ⟨_, _, rfl, ?_, ?_⟩
      · repeat (refine Cur.setNew ?_ hp2 _ _)
        exact HJ.out.cur
      · repeat (refine CB.setNew ?_ HJ.out.lo2 _ _)
        exact HJ.out.cb
    · by_cases e2 : x = 2
      · subst e2
        obtain ⟨n4, hn4⟩ := hK.b3.cellI (j := 0) rfl
        obtain ⟨n5, hn5⟩ := hK.b3.cellI (j := 1) rfl
        have hf4 := hK.b3.2.2 0
        have hf5 := hK.b3.2.2 1
        have hI := (hK.setI (j := 0) rfl 3).setI (j := 1) rfl 0
        clear hK
        have hne := hI.ne
        have hne2 : ¬ g3 = g2 := by omega
        obtain ⟨hl3, ⟨r, hr⟩, hf3⟩ := hI.b3
        obtain ⟨hl2, ⟨r2, hr2⟩, hf2⟩ := hI.b2
        have x0 := hr 0 _ rfl
        have x1 := hr 1 _ rfl
        have y0 := hr2 0 _ rfl
        have y1 := hr2 1 _ rfl
        have f0 := hf2 0
        have f1 := hf2 1
        have HJ := Lib.hid hI
        clear hr hr2 hf3 hf2 hI
        go_wp2_with fail
        have hp2 : p < g2 := by have := HJ.out.lo2; have := HJ.out.plt; omega
        refine bodyPost_ret (v := valV (r.s 0) (r.s 1)) (by simp [results, Try.results45, go_sem, y0, y1, hne, hne2]) rfl ⟨_, _, rfl, ?_, ?_⟩
        · repeat (refine Cur.setNew ?_ hp2 _ _)
          exact HJ.out.cur
        · repeat (refine CB.setNew ?_ HJ.out.lo2 _ _)
          exact HJ.out.cb
      · have hne := hK.ne
        have hne2 : ¬ g3 = g2 := by omega
        obtain ⟨hl3, ⟨r, hr⟩, hf3⟩ := hK.b3
        obtain ⟨hl2, ⟨r2, hr2⟩, hf2⟩ := hK.b2
        have x0 := hr 0 _ rfl
        have x1 := hr 1 _ rfl
        have y0 := hr2 0 _ rfl
        have y1 := hr2 1 _ rfl
        have f0 := hf2 0
        have f1 := hf2 1
        have HJ := Lib.hid hK
        clear hr hr2 hf3 hf2 hK
        go_wp2_with fail
        have hp2 : p < g2 := by have := HJ.out.lo2; have := HJ.out.plt; omega
        refine bodyPost_ret (v := valV (r.s 0) (r.s 1)) (by simp [results, Try.results45, go_sem, y0, y1, hne, hne2]) rfl ⟨_, _, rfl, ?_, ?_⟩
        · repeat (refine Cur.setNew ?_ hp2 _ _)
          exact HJ.out.cur
        · repeat (refine CB.setNew ?_ HJ.out.lo2 _ _)
          exact HJ.out.cb
set_option maxRecDepth 100000 in
set_option maxHeartbeats 2000000 in
theorem l08Base_c (p : Nat) (w : World) (hc : Cur w p) :
    Calls Try.prog 23 #[.pointer (some ⟨p, 0, none⟩)] w fun r w' => ∃ x, r = .returned (.int .i64 x) ∧ Cur w' p ∧ CB p w w' := by
  go_enter Try.func23, Try.ntmps23
  go_wp2_with fail
  refine (pickLit_c _ [-1, 0, 640, 1000, 3200, 1048576] w _ hc (by simp) (by simp) (by simp)).mono ?_; rintro e w2 ⟨z, rfl, hz, hc2, hb2⟩
  go_wp2_with fail
  go_ret
  exact ⟨z, rfl, hc2, hb2⟩
end Go.Proofs.Ytfmijkedhlnccaa
