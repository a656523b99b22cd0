/- Draws of a space: l11Space, l11Any, DrawInnerOf, DrawTaken, DrawExactOr. -/
import Derived.Test.YtfmijkedhlnccaaDoorDrawB
import Derived.Test.YtfmijkedhlnccaaDoorSpace
namespace Go.Proofs.YtfmijkedhlnccaaDoor
open Go.RowKit Go.ChangeShapes Go.WideShapes
set_option linter.unusedVariables false
set_option linter.unusedSimpArgs false

abbrev k_sp : List Bool := [true, true]
set_option maxRecDepth 100000 in
set_option maxHeartbeats 2000000 in
theorem l11Space_c (p : Nat) (w : World) (hc : Cur w p) :
    Calls Tryd.prog 37 #[.pointer (some ⟨p, 0, none⟩)] w fun r w' => ∃ m n, r = .returned (spaceV m n) ∧ Cur w' p ∧ CB p w w' := by
  have hlt := hc.lt
  go_enter Tryd.func37, Tryd.ntmps37
  go_wp2_with fail
  refine (l01Below_c _ _ _ (hc.keep ((Bel.refl _).alloc _))).mono ?_; rintro e w1 ⟨x, rfl, hx, hc1, hb1⟩
  have hB2 : BX w1 w.heap.size k_sp := (BX.new w k_sp Rec.zero 25).cb hb1 (by omega)
  have hcb1 : CB p w w1 := ((CB.refl p w).alloc _).trans hb1
  clear hb1
  by_cases h0 : x = 0
  · subst h0
    obtain ⟨n0, x0⟩ := hB2.cellI (j := 0) rfl
    obtain ⟨n1, x1⟩ := hB2.cellI (j := 1) rfl
    have f0 := hB2.2.2 0
    have f1 := hB2.2.2 1
    go_wp2_with fail
    exact bodyPost_ret (v := spaceV (1) (0)) (by simp [results, Tryd.results37, go_sem, x0, x1]) rfl ⟨_, _, rfl, (hc1.setNew (by omega) _ _).setNew (by omega) _ _, (hcb1.setNew (Nat.le_refl _) _ _).setNew (Nat.le_refl _) _ _⟩
  · by_cases h1 : x = 1
    · subst h1
      go_wp2_with fail
      refine (pickLit_c _ [0, 300, 640, 1000, 3200] w1 _ hc1 (by simp) (by simp) (by simp)).mono ?_; rintro e w2 ⟨z, rfl, hz, hc2, hb2⟩
      have hB3 := hB2.cb hb2 (by omega)
      obtain ⟨n0, x0⟩ := hB3.cellI (j := 0) rfl
      obtain ⟨n1, x1⟩ := hB3.cellI (j := 1) rfl
      have hcb2 := hcb1.trans hb2
      have f0 := hB3.2.2 0
      have f1 := hB3.2.2 1
      go_wp2_with fail
      exact bodyPost_ret (v := spaceV (2) z) (by simp [results, Tryd.results37, go_sem, x0, x1]) rfl ⟨_, _, rfl, (hc2.setNew (by omega) _ _).setNew (by omega) _ _, (hcb2.setNew (Nat.le_refl _) _ _).setNew (Nat.le_refl _) _ _⟩
    · go_wp2_with fail
      refine (pickLit_c _ [0, 300, 640, 1000, 3200, 1048576] w1 _ hc1 (by simp) (by simp) (by simp)).mono ?_; rintro e w2 ⟨z, rfl, hz, hc2, hb2⟩
      have hB3 := hB2.cb hb2 (by omega)
      obtain ⟨n0, x0⟩ := hB3.cellI (j := 0) rfl
      obtain ⟨n1, x1⟩ := hB3.cellI (j := 1) rfl
      have hcb2 := hcb1.trans hb2
      have f0 := hB3.2.2 0
      have f1 := hB3.2.2 1
      go_wp2_with fail
      exact bodyPost_ret (v := spaceV (3) z) (by simp [results, Tryd.results37, go_sem, x0, x1]) rfl ⟨_, _, rfl, (hc2.setNew (by omega) _ _).setNew (by omega) _ _, (hcb2.setNew (Nat.le_refl _) _ _).setNew (Nat.le_refl _) _ _⟩
set_option maxRecDepth 100000 in
set_option maxHeartbeats 2000000 in
theorem l11Any_c (p : Nat) (w : World) (hc : Cur w p) :
    Calls Tryd.prog 27 #[.pointer (some ⟨p, 0, none⟩)] w fun r w' => ∃ m n, r = .returned (spaceV m n) ∧ Cur w' p ∧ CB p w w' := by
  have hlt := hc.lt
  go_enter Tryd.func27, Tryd.ntmps27
  go_wp2_with fail
  refine (l11Space_c _ _ (hc.keep ((Bel.refl _).alloc _))).mono ?_; rintro e w1 ⟨m, n, rfl, hc1, hb1⟩
  have hB2 : BX w1 w.heap.size k_sp := (BX.new w k_sp Rec.zero 25).cb hb1 (by omega)
  have hcb1 : CB p w w1 := ((CB.refl p w).alloc _).trans hb1
  have hl2 := hB2.1
  have hI : It k_sp w (w1.alloc (.cells (rcells k_sp ⟨fun i => if i = 0 then m else n, fun _ => false⟩).toArray 25)) p w.heap.size w1.heap.size :=
    ⟨hc1.keep ((Bel.refl _).alloc _), hcb1.alloc _, Nat.le_refl _, hcb1.sz, hlt, by omega, hB2.keep ((Bel.refl _).alloc _), BX.new w1 k_sp _ 25⟩
  clear hB2 hc1 hcb1 hb1
  go_wp2_with fail
  refine (l01Below_c _ _ _ hI.cur).mono ?_; rintro e w3 ⟨x, rfl, hx, hc3, hb3⟩
  have hK := hI.go hc3 hb3
  clear hI hc3 hb3
  obtain ⟨g2, hg2⟩ : ∃ g, w.heap.size = g := ⟨_, rfl⟩
  obtain ⟨g3, hg3⟩ : ∃ g, w1.heap.size = g := ⟨_, rfl⟩
  rw [hg2, hg3] at hK ⊢
  rw [hg2] at hlt hl2
  by_cases e0 : x = 0
  · subst e0
    go_wp2_with fail
    refine (l02Int_c _ _ hK.cur).mono ?_; rintro e w4 ⟨y, rfl, hy, hc4, hb4⟩
    have hJ := hK.go hc4 hb4
    obtain ⟨n4, hn4⟩ := hJ.b3.cellI (j := 1) rfl
    have hf4 := hJ.b3.2.2 1
    have hI := hJ.setI (j := 1) rfl y
    clear hc4 hb4 hK hJ
    have hne := hI.ne
    have hne2 : ¬ g3 = g2 := by omega
    obtain ⟨hl3, ⟨r, hr⟩, hf3⟩ := hI.b3
    obtain ⟨hl2, ⟨r2, hr2⟩, hf2⟩ := hI.b2
    have x0 := hr 0 _ rfl
    have x1 := hr 1 _ rfl
    have y0 := hr2 0 _ rfl
    have y1 := hr2 1 _ rfl
    have f0 := hf2 0
    have f1 := hf2 1
    have HJ := Lib.hid hI
    clear hr hr2 hf3 hf2 hI
    go_wp2_with fail
    have hp2 : p < g2 := by have := HJ.out.lo2; have := HJ.out.plt; omega
    refine bodyPost_ret (v := spaceV (r.s 0) (r.s 1)) (by simp [results, Tryd.results27, go_sem, y0, y1, hne, hne2]) rfl ⟨r.s 0, r.s 1, rfl, ?_, ?_⟩
    · repeat (refine Cur.setNew ?_ hp2 _ _)
      exact HJ.out.cur
    · repeat (refine CB.setNew ?_ HJ.out.lo2 _ _)
      exact HJ.out.cb
  · by_cases e1 : x = 1
    · subst e1
      go_wp2_with fail
      refine (l01Below_c _ _ _ hK.cur).mono ?_; rintro e w4 ⟨y, rfl, hy, hc4, hb4⟩
      have hy0 := hy.1
      have hy1 := hy.2.1 (by omega)
      have hJ := hK.go hc4 hb4
      obtain ⟨n4, hn4⟩ := hJ.b3.cellI (j := 0) rfl
      have hf4 := hJ.b3.2.2 0
      have hI := hJ.setI (j := 0) rfl (y - 1)
      clear hc4 hb4 hK hJ hy
      have hne := hI.ne
      have hne2 : ¬ g3 = g2 := by omega
      obtain ⟨hl3, ⟨r, hr⟩, hf3⟩ := hI.b3
      obtain ⟨hl2, ⟨r2, hr2⟩, hf2⟩ := hI.b2
      have x0 := hr 0 _ rfl
      have x1 := hr 1 _ rfl
      have y0 := hr2 0 _ rfl
      have y1 := hr2 1 _ rfl
      have f0 := hf2 0
      have f1 := hf2 1
      have HJ := Lib.hid hI
      clear hr hr2 hf3 hf2 hI
      go_wp2_with fail
      have hp2 : p < g2 := by have := HJ.out.lo2; have := HJ.out.plt; omega
      refine bodyPost_ret (v := spaceV (r.s 0) (r.s 1)) (by simp [results, Tryd.results27, go_sem, y0, y1, hne, hne2]) rfl ⟨r.s 0, r.s 1, rfl, ?_, ?_⟩
      · repeat (refine Cur.setNew ?_ hp2 _ _)
        exact HJ.out.cur
      · repeat (refine CB.setNew ?_ HJ.out.lo2 _ _)
        exact HJ.out.cb
    · have hne := hK.ne
      have hne2 : ¬ g3 = g2 := by omega
      obtain ⟨hl3, ⟨r, hr⟩, hf3⟩ := hK.b3
      obtain ⟨hl2, ⟨r2, hr2⟩, hf2⟩ := hK.b2
      have x0 := hr 0 _ rfl
      have x1 := hr 1 _ rfl
      have y0 := hr2 0 _ rfl
      have y1 := hr2 1 _ rfl
      have f0 := hf2 0
      have f1 := hf2 1
      have HJ := Lib.hid hK
      clear hr hr2 hf3 hf2 hK
      go_wp2_with fail
      have hp2 : p < g2 := by have := HJ.out.lo2; have := HJ.out.plt; omega
      refine bodyPost_ret (v := spaceV (r.s 0) (r.s 1)) (by simp [results, Tryd.results27, go_sem, y0, y1, hne, hne2]) rfl ⟨r.s 0, r.s 1, rfl, ?_, ?_⟩
      · repeat (refine Cur.setNew ?_ hp2 _ _)
        exact HJ.out.cur
      · repeat (refine CB.setNew ?_ HJ.out.lo2 _ _)
        exact HJ.out.cb
set_option maxRecDepth 100000 in
set_option maxHeartbeats 2000000 in
theorem drawInnerOf_c (A : Option Addr) (n c : Nat) (w : World) (h : Byts w A n) (hn : n ≤ 1048576) :
    Calls Tryd.prog 23 #[.slice A n c] w fun r w' => ∃ a b k, r = .returned (.tuple #[spaceV a b, .int .i64 k]) ∧ Bel w w' := by
  go_enter Tryd.func23, Tryd.ntmps23
  go_wp2_with fail
  refine (l01New_c _ _ _ _ (h.keep ((Bel.refl _).alloc _)) (by omega)).mono ?_; rintro e w1 ⟨rfl, hc1, hb1⟩
  have hBe : Bel w w1 := ((Bel.refl w).alloc _).trans hb1
  have hB2 : BX w1 w.heap.size k_sp := (BX.new w k_sp Rec.zero 25).keep hb1
  have hsz : (w.alloc (.cells #[.int .i64 0, .int .i64 0] 25)).heap.size = w.heap.size + 1 := by simp
  rw [hsz] at hc1
  clear hsz
  go_wp2_with fail
  refine (l11Any_c _ _ hc1).mono ?_; rintro e w2 ⟨a, b, rfl, hc2, hb2⟩
  have hC2 := hB2.cb hb2 (by omega)
  have hB := hb2.toBel hBe (Nat.le_succ _)
  clear hB2 hb2 hBe hb1
  go_wp2_with fail
  refine (l02Int_c _ _ hc2).mono ?_; rintro e w3 ⟨k, rfl, hk, hc3, hb3⟩
  have hC3 := hC2.cb hb3 (by omega)
  have hB3 := hb3.toBel hB (Nat.le_succ _)
  obtain ⟨n0, x0⟩ := hC3.cellI (j := 0) rfl
  obtain ⟨n1, x1⟩ := hC3.cellI (j := 1) rfl
  have f0 := hC3.2.2 0
  have f1 := hC3.2.2 1
  clear hC2 hB hb3 hC3 hc2
  go_wp2_with fail
  exact bodyPost_ret (v := .tuple #[spaceV a b, .int .i64 k]) (by simp [results, Tryd.results23, go_sem, x0, x1]) rfl ⟨_, _, _, rfl, (hB3.setCell (Nat.le_refl _) _).setCell (Nat.le_refl _) _⟩
set_option maxRecDepth 100000 in
set_option maxHeartbeats 2000000 in
theorem drawTaken_c (A : Option Addr) (n c : Nat) (w : World) (h : Byts w A n) (hn : n ≤ 1048576) :
    Calls Tryd.prog 6 #[.slice A n c] w fun r w' => ∃ a b k, r = .returned (.tuple #[spaceV a b, .int .i64 k]) ∧ Bel w w' := by
  go_enter Tryd.func6, Tryd.ntmps6
  go_wp2_with fail
  refine (drawInnerOf_c _ _ _ _ (h.keep ((Bel.refl _).alloc _)) (by omega)).mono ?_; rintro e w1 ⟨a, b, k, rfl, hb1⟩
  have hBe : Bel w w1 := ((Bel.refl w).alloc _).trans hb1
  have hC3 : BX w1 w.heap.size k_sp := (BX.new w k_sp Rec.zero 25).keep hb1
  obtain ⟨n0, x0⟩ := hC3.cellI (j := 0) rfl
  obtain ⟨n1, x1⟩ := hC3.cellI (j := 1) rfl
  have f0 := hC3.2.2 0
  have f1 := hC3.2.2 1
  clear hC3 hb1
  go_wp2_with fail
  exact bodyPost_ret (v := .tuple #[spaceV a b, .int .i64 k]) (by simp [results, Tryd.results6, go_sem, x0, x1]) rfl ⟨_, _, _, rfl, (hBe.setCell (Nat.le_refl _) _).setCell (Nat.le_refl _) _⟩
set_option maxRecDepth 100000 in
set_option maxHeartbeats 2000000 in
theorem drawExactOr_c (A : Option Addr) (n c : Nat) (w : World) (h : Byts w A n) (hn : n ≤ 1048576) :
    Calls Tryd.prog 10 #[.slice A n c] w fun r w' => ∃ k a b, r = .returned (.tuple #[.int .i64 k, spaceV a b]) ∧ Bel w w' := by
  go_enter Tryd.func10, Tryd.ntmps10
  go_wp2_with fail
  refine (l01New_c _ _ _ _ (h.keep ((Bel.refl _).alloc _)) (by omega)).mono ?_; rintro e w1 ⟨rfl, hc1, hb1⟩
  have hBe : Bel w w1 := ((Bel.refl w).alloc _).trans hb1
  have hB2 : BX w1 w.heap.size k_sp := (BX.new w k_sp Rec.zero 25).keep hb1
  have hsz : (w.alloc (.cells #[.int .i64 0, .int .i64 0] 25)).heap.size = w.heap.size + 1 := by simp
  rw [hsz] at hc1
  clear hsz
  go_wp2_with fail
  refine (pickLit_c _ [-1, 0, 640, -2, 1048577] w1 _ hc1 (by simp) (by simp) (by simp)).mono ?_; rintro e w2 ⟨z, rfl, hz, hc2, hb2⟩
  have hC2 := hB2.cb hb2 (by omega)
  have hB := hb2.toBel hBe (Nat.le_succ _)
  clear hB2 hb2 hBe hb1 hz
  go_wp2_with fail
  refine (l11Any_c _ _ hc2).mono ?_; rintro e w3 ⟨a, b, rfl, hc3, hb3⟩
  have hC3 := hC2.cb hb3 (by omega)
  have hB3 := hb3.toBel hB (Nat.le_succ _)
  obtain ⟨n0, x0⟩ := hC3.cellI (j := 0) rfl
  obtain ⟨n1, x1⟩ := hC3.cellI (j := 1) rfl
  have f0 := hC3.2.2 0
  have f1 := hC3.2.2 1
  clear hC2 hB hb3 hC3 hc2
  go_wp2_with fail
  exact bodyPost_ret (v := .tuple #[.int .i64 z, spaceV a b]) (by simp [results, Tryd.results10, go_sem, x0, x1]) rfl ⟨_, _, _, rfl, (hB3.setCell (Nat.le_refl _) _).setCell (Nat.le_refl _) _⟩
end Go.Proofs.YtfmijkedhlnccaaDoor
