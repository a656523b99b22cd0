/- Draws: a literal list that is picked from; l02Int; a struct in a box; l13Item, l13Items, l13Any. -/
import Derived.Test.YtmipjhnjlpmidaaDraw
import Derived.Test.YtmipjhnjlpmidaaItemFns
import Derived.Test.YtmipjhnjlpmidaaBox
import Derived.Test.YtmipjhnjlpmidaaApp
import Derived.Deep.CutRange
namespace Go.Proofs.Ytmipjhnjlpmidaa
open Go.RowKit Go.ChangeShapes Go.WideShapes
set_option linter.unusedVariables false
set_option linter.unusedSimpArgs false

theorem lit_ints (w : World) (zs : List Int) : Ints (w.alloc (.cells (VI zs).toArray 3)) (some ⟨w.heap.size, 0, none⟩) zs := fun i hi => ⟨_, _, rfl, by simp, fun j hj => by
  rw [Nat.zero_add]; exact new_cells w _ _ j _ (VI_at hj)⟩
theorem pickLit_c (p : Nat) (zs : List Int) (w : World) (g : Nat) (hc : Cur w p) (hp : 0 < zs.length) (hn : zs.length ≤ 1048576) (hg : w.heap.size = g) :
    Calls Try.prog 66 #[.pointer (some ⟨p, 0, none⟩), .slice (some ⟨g, 0, none⟩) zs.length zs.length] (w.alloc (.cells (VI zs).toArray 3)) fun r w' => ∃ z, r = .returned (.int .i64 z) ∧ z ∈ zs ∧ Cur w' p ∧ CB p w w' := by
  subst hg
  refine (l01PickInt_c p _ _ zs _ (hc.keep ((Bel.refl _).alloc _)) (lit_ints w zs) hp hn (fun b o e => by injection e with e; injection e with e1; have := hc.lt; omega)).mono ?_
  rintro r w' ⟨z, hr, hz, h1, h2⟩
  exact ⟨z, hr, hz, h1, ((CB.refl p w).alloc _).trans h2⟩
set_option maxRecDepth 100000 in
set_option maxHeartbeats 2000000 in
theorem l02Int_c (p : Nat) (w : World) (hc : Cur w p) :
    Calls Try.prog 65 #[.pointer (some ⟨p, 0, none⟩)] w fun r w' => ∃ x, r = .returned (.int .i64 x) ∧ (-9223372036854775808 ≤ x ∧ x ≤ 9223372036854775807) ∧ Cur w' p ∧ CB p w w' := by
  go_enter Try.func65, Try.ntmps65
  go_wp2_with fail
  refine (l01Below_c _ _ _ hc).mono ?_; rintro e w1 ⟨x, rfl, hx, hc1, hb1⟩
  by_cases h0 : x = 0
  · go_wp2_with fail
    refine (pickLit_c _ [0, 1, -1, 64, 1048576, 1048577, -1048576, -1048577, 9223372036854775807, -9223372036854775808] w1 _ hc1 (by simp) (by simp) (by simp)).mono ?_; rintro e w2 ⟨z, rfl, hz, hc2, hb2⟩
    go_wp2_with fail
    go_ret
    refine ⟨z, rfl, ?_, hc2, hb1.trans hb2⟩
    simp only [List.mem_cons, List.not_mem_nil, or_false] at hz
    omega
  · by_cases h1 : x = 1
    · go_wp2_with fail
      refine (l01Below_c _ _ _ hc1).mono ?_; rintro e w2 ⟨y, rfl, hy, hc2, hb2⟩
      have hy0 := hy.1
      have hy1 := hy.2.1 (by omega)
      have q1 : wrap64 (-y) = -y := by unfold wrap64; omega
      have q2 : wrap64 (0 - y) = -y := by unfold wrap64; omega
      go_wp2_with fail
      go_ret
      exact ⟨-y, by first | rfl | simp [q1] | (rw [q1]) | (rw [q2]), by omega, hc2, hb1.trans hb2⟩
    · go_wp2_with fail
      refine (l01Below_c _ _ _ hc1).mono ?_; rintro e w2 ⟨y, rfl, hy, hc2, hb2⟩
      have hy0 := hy.1
      have hy1 := hy.2.1 (by omega)
      go_wp2_with fail
      go_ret
      exact ⟨y, rfl, by omega, hc2, hb1.trans hb2⟩

/-! ### a struct in a box, whatever it holds -/
def BX (w : World) (g : Nat) (ks : List Bool) : Prop := g < w.heap.size ∧ (∃ r : Rec, ∀ j v, (rcells ks r)[j]? = some v → w.cell? ⟨g, j, none⟩ = some v) ∧ ∀ j, w.frozen? ⟨g, j, none⟩ = false
theorem BX.cb {w w' : World} {g p : Nat} {ks : List Bool} (h : BX w g ks) (hb : CB p w w') (hp : g ≠ p) : BX w' g ks := by
  obtain ⟨hl, ⟨r, hr⟩, hf⟩ := h
  exact ⟨Nat.lt_of_lt_of_le hl hb.sz, ⟨r, fun j v e => (hb.cell _ _ hl hp).trans (hr j v e)⟩, fun j => (hb.frozen _ _ hl hp).trans (hf j)⟩
theorem BX.keep {w w' : World} {g : Nat} {ks : List Bool} (h : BX w g ks) (hb : Bel w w') : BX w' g ks := by
  obtain ⟨hl, ⟨r, hr⟩, hf⟩ := h
  exact ⟨Nat.lt_of_lt_of_le hl hb.sz, ⟨r, fun j v e => (hb.cell _ _ hl).trans (hr j v e)⟩, fun j => (hb.frozen _ _ hl).trans (hf j)⟩
theorem BX.setO {w : World} {g q : Nat} {ks : List Bool} (h : BX w g ks) (hq : q ≠ g) (j : Nat) (v : Value) : BX (w.setCell ⟨q, j, none⟩ v) g ks := by
  obtain ⟨hl, ⟨r, hr⟩, hf⟩ := h
  exact ⟨by simpa using hl, ⟨r, fun i u e => (cell_set_ne (by omega)).trans (hr i u e)⟩, fun i => by simpa using hf i⟩
theorem rcells_upd {ks : List Bool} {r r' : Rec} {i j : Nat} (hs : ∀ k, k ≠ j → r'.s k = r.s k) (hb : ∀ k, k ≠ j → r'.b k = r.b k) (h : i ≠ j) : (rcells ks r')[i]? = (rcells ks r)[i]? := by
  cases hk : ks[i]? with
  | none =>
    have : ks.length ≤ i := List.getElem?_eq_none_iff.1 hk
    rw [List.getElem?_eq_none (by rw [rcells_length]; exact this), List.getElem?_eq_none (by rw [rcells_length]; exact this)]
  | some k =>
    cases k
    · rw [rcells_bool _ hk, rcells_bool _ hk, hb i h]
    · rw [rcells_int _ hk, rcells_int _ hk, hs i h]
theorem BX.setI {w : World} {g j : Nat} {ks : List Bool} (h : BX w g ks) (hk : ks[j]? = some true) (n : Int) : BX (w.setCell ⟨g, j, none⟩ (.int .i64 n)) g ks := by
  obtain ⟨hl, ⟨r, hr⟩, hf⟩ := h
  refine ⟨by simpa using hl, ⟨⟨fun i => if i = j then n else r.s i, r.b⟩, fun i u e => ?_⟩, fun i => by simpa using hf i⟩
  by_cases e2 : i = j
  · subst e2
    rw [rcells_int _ hk] at e
    simp at e
    subst e
    exact World.cell?_setCell_same _ _ _ (hr i _ (rcells_int r hk))
  · rw [rcells_upd (r := r) (r' := ⟨fun i => if i = j then n else r.s i, r.b⟩) (j := j) (fun k hk => by simp [hk]) (fun k _ => rfl) e2] at e
    exact (cell_set_ne (by omega)).trans (hr i u e)
theorem BX.setB {w : World} {g j : Nat} {ks : List Bool} (h : BX w g ks) (hk : ks[j]? = some false) (n : Bool) : BX (w.setCell ⟨g, j, none⟩ (.bool n)) g ks := by
  obtain ⟨hl, ⟨r, hr⟩, hf⟩ := h
  refine ⟨by simpa using hl, ⟨⟨r.s, fun i => if i = j then n else r.b i⟩, fun i u e => ?_⟩, fun i => by simpa using hf i⟩
  by_cases e2 : i = j
  · subst e2
    rw [rcells_bool _ hk] at e
    simp at e
    subst e
    exact World.cell?_setCell_same _ _ _ (hr i _ (rcells_bool r hk))
  · rw [rcells_upd (r := r) (r' := ⟨r.s, fun i => if i = j then n else r.b i⟩) (j := j) (fun k _ => rfl) (fun k hk => by simp [hk]) e2] at e
    exact (cell_set_ne (by omega)).trans (hr i u e)
theorem BX.new (w : World) (ks : List Bool) (r : Rec) (t : TypeId) : BX (w.alloc (.cells (rcells ks r).toArray t)) w.heap.size ks :=
  ⟨by simp, ⟨r, fun j v e => new_cells w _ _ j v e⟩, fun j => by simp⟩
theorem BX.cellI {w : World} {g j : Nat} {ks : List Bool} (h : BX w g ks) (hk : ks[j]? = some true) : ∃ n : Int, w.cell? ⟨g, j, none⟩ = some (.int .i64 n) := by
  obtain ⟨hl, ⟨r, hr⟩, hf⟩ := h
  exact ⟨_, hr j _ (rcells_int r hk)⟩
theorem BX.cellB {w : World} {g j : Nat} {ks : List Bool} (h : BX w g ks) (hk : ks[j]? = some false) : ∃ n : Bool, w.cell? ⟨g, j, none⟩ = some (.bool n) := by
  obtain ⟨hl, ⟨r, hr⟩, hf⟩ := h
  exact ⟨_, hr j _ (rcells_bool r hk)⟩
/-- a cursor, the result's box, the variable's box -/
structure It (ks : List Bool) (w0 w : World) (p g2 g3 : Nat) : Prop where
  cur : Cur w p
  cb : CB p w0 w
  lo2 : w0.heap.size ≤ g2
  lo3 : w0.heap.size ≤ g3
  plt : p < w0.heap.size
  ne : g2 ≠ g3
  b2 : BX w g2 ks
  b3 : BX w g3 ks
section
variable {ks : List Bool} {w0 w w' : World} {p g2 g3 j : Nat}
theorem It.keep (h : It ks w0 w p g2 g3) (hb : Bel w w') : It ks w0 w' p g2 g3 :=
  ⟨h.cur.keep hb, h.cb.bel hb, h.lo2, h.lo3, h.plt, h.ne, h.b2.keep hb, h.b3.keep hb⟩
theorem It.go (h : It ks w0 w p g2 g3) (hc : Cur w' p) (hb : CB p w w') : It ks w0 w' p g2 g3 := by
  have := h.lo2
  have := h.lo3
  have := h.plt
  exact ⟨hc, h.cb.trans hb, h.lo2, h.lo3, h.plt, h.ne, h.b2.cb hb (by omega), h.b3.cb hb (by omega)⟩
theorem It.setI (h : It ks w0 w p g2 g3) (hk : ks[j]? = some true) (n : Int) : It ks w0 (w.setCell ⟨g3, j, none⟩ (.int .i64 n)) p g2 g3 := by
  have := h.lo3
  have := h.plt
  have := h.ne
  exact ⟨h.cur.setNew (by omega) _ _, h.cb.setNew h.lo3 _ _, h.lo2, h.lo3, h.plt, h.ne, h.b2.setO (by omega) _ _, h.b3.setI hk n⟩
theorem It.setB (h : It ks w0 w p g2 g3) (hk : ks[j]? = some false) (n : Bool) : It ks w0 (w.setCell ⟨g3, j, none⟩ (.bool n)) p g2 g3 := by
  have := h.lo3
  have := h.plt
  have := h.ne
  exact ⟨h.cur.setNew (by omega) _ _, h.cb.setNew h.lo3 _ _, h.lo2, h.lo3, h.plt, h.ne, h.b2.setO (by omega) _ _, h.b3.setB hk n⟩
end
set_option maxRecDepth 100000 in
set_option maxHeartbeats 2000000 in
theorem l13Item_c (p : Nat) (w : World) (hc : Cur w p) :
    Calls Try.prog 102 #[.pointer (some ⟨p, 0, none⟩)] w fun r w' => ∃ x : Rec, r = .returned (itemV (x.s 0) (x.s 1) (x.s 2) (x.s 3) (x.s 4) (x.s 5) (x.s 6) (x.b 7) (x.b 8)) ∧ Cur w' p ∧ CB p w w' := by
  have hlt := hc.lt
  go_enter Try.func102, Try.ntmps102
  go_wp2_with fail
  refine (l01Below_c _ _ _ (hc.keep ((Bel.refl _).alloc _))).mono ?_; rintro e w1 ⟨x, rfl, hx, hc1, hb1⟩
  have hB2 : BX w1 w.heap.size k_item := (BX.new w k_item Rec.zero 48).cb hb1 (by omega)
  have hcb1 : CB p w w1 := ((CB.refl p w).alloc _).trans hb1
  go_wp2_with fail
  refine (pickLit_c _ [0, 64, 100, 640, 33, 1000, x] w1 _ hc1 (by simp) (by simp) (by simp)).mono ?_; rintro e w2 ⟨z, rfl, hz, hc2, hb2⟩
  have hB2' := hB2.cb hb2 (by omega)
  have hcb2 := hcb1.trans hb2
  clear hB2 hcb1 hb1 hb2 hc1 hc
  have hl2 := hB2'.1
  have hI : It k_item w (w2.alloc (.cells (rcells k_item ⟨fun i => if i = 0 then z else if i = 2 then -1 else 0, fun _ => false⟩).toArray 48)) p w.heap.size w2.heap.size :=
    ⟨hc2.keep ((Bel.refl _).alloc _), hcb2.alloc _, Nat.le_refl _, hcb2.sz, hlt, by omega, hB2'.keep ((Bel.refl _).alloc _), BX.new w2 k_item _ 48⟩
  clear hB2' hc2 hcb2 hz hx
  go_wp2_with fail
  refine (l01Once_c _ _ _ hI.cur).mono ?_; rintro e w3 ⟨b, rfl, hc3, hb3⟩
  have hK := hI.go hc3 hb3
  clear hI hc3 hb3
  obtain ⟨g2, hg2⟩ : ∃ g, w.heap.size = g := ⟨_, rfl⟩
  obtain ⟨g3, hg3⟩ : ∃ g, w2.heap.size = g := ⟨_, rfl⟩
  rw [hg2, hg3] at hK ⊢
  go_upto_if 11 with fail
  go_cut [] from 12 (fun wx => It k_item w wx p g2 g3)
  case first =>
    cases b
    · go_wp2_with fail
      go_meet
      exact hK
    · go_wp2_with fail
      refine (pickLit_c _ [0, 64, 200, 700] _ _ hK.cur (by simp) (by simp) (by simp)).mono ?_; rintro e w4 ⟨z4, rfl, hz4, hc4, hb4⟩
      have hJ := hK.go hc4 hb4
      obtain ⟨n4, hn4⟩ := hJ.b3.cellI (j := 1) rfl
      have hf4 := hJ.b3.2.2 1
      clear hc4 hb4 hK
      go_wp2_with fail
      go_meet
      exact hJ.setI rfl _
  case rest =>
  have hI := hcut
  clear hcut hK
  go_wp2_with fail
  refine (l01Once_c _ _ _ hI.cur).mono ?_; rintro e w3 ⟨b, rfl, hc3, hb3⟩
  have hK := hI.go hc3 hb3
  clear hI hc3 hb3
  go_upto_if 17 with fail
  go_cut [] from 18 (fun wx => It k_item w wx p g2 g3)
  case first =>
    cases b
    · go_wp2_with fail
      go_meet
      exact hK
    · go_wp2_with fail
      refine (pickLit_c _ [0, 100, 300, 1000] _ _ hK.cur (by simp) (by simp) (by simp)).mono ?_; rintro e w4 ⟨z4, rfl, hz4, hc4, hb4⟩
      have hJ := hK.go hc4 hb4
      obtain ⟨n4, hn4⟩ := hJ.b3.cellI (j := 2) rfl
      have hf4 := hJ.b3.2.2 2
      clear hc4 hb4 hK
      go_wp2_with fail
      go_meet
      exact hJ.setI rfl _
  case rest =>
  have hI := hcut
  clear hcut hK
  go_wp2_with fail
  refine (pickLit_c _ [0, 1, 1, 2, 3, 1000] _ _ hI.cur (by simp) (by simp) (by simp)).mono ?_; rintro e w4 ⟨z4, rfl, hz4, hc4, hb4⟩
  have hJ := hI.go hc4 hb4
  obtain ⟨n4, hn4⟩ := hJ.b3.cellI (j := 3) rfl
  have hf4 := hJ.b3.2.2 3
  clear hc4 hb4 hI
  go_wp2_with fail
  have hI := hJ.setI (j := 3) rfl z4
  clear hJ hn4 hf4
  refine (pickLit_c _ [0, 1, 1, 2, 1000] _ _ hI.cur (by simp) (by simp) (by simp)).mono ?_; rintro e w4 ⟨z4, rfl, hz4, hc4, hb4⟩
  have hJ := hI.go hc4 hb4
  obtain ⟨n4, hn4⟩ := hJ.b3.cellI (j := 4) rfl
  have hf4 := hJ.b3.2.2 4
  clear hc4 hb4 hI
  go_wp2_with fail
  have hI := hJ.setI (j := 4) rfl z4
  clear hJ hn4 hf4
  refine (l01Once_c _ _ _ hI.cur).mono ?_; rintro e w3 ⟨b, rfl, hc3, hb3⟩
  have hK := hI.go hc3 hb3
  clear hI hc3 hb3
  go_upto_if 31 with fail
  go_cut [] from 32 (fun wx => It k_item w wx p g2 g3)
  case first =>
    cases b
    · go_wp2_with fail
      go_meet
      exact hK
    · go_wp2_with fail
      refine (pickLit_c _ [10, 64, -10, 33] _ _ hK.cur (by simp) (by simp) (by simp)).mono ?_; rintro e w4 ⟨z4, rfl, hz4, hc4, hb4⟩
      have hJ := hK.go hc4 hb4
      obtain ⟨n4, hn4⟩ := hJ.b3.cellI (j := 5) rfl
      have hf4 := hJ.b3.2.2 5
      clear hc4 hb4 hK
      go_wp2_with fail
      have hI := hJ.setI (j := 5) rfl z4
      clear hJ hn4 hf4
      refine (pickLit_c _ [10, 64, -10, 33] _ _ hI.cur (by simp) (by simp) (by simp)).mono ?_; rintro e w4 ⟨z4, rfl, hz4, hc4, hb4⟩
      have hJ := hI.go hc4 hb4
      obtain ⟨n4, hn4⟩ := hJ.b3.cellI (j := 6) rfl
      have hf4 := hJ.b3.2.2 6
      clear hc4 hb4 hI
      go_wp2_with fail
      go_meet
      exact hJ.setI rfl _
  case rest =>
  have hI := hcut
  clear hcut hK
  go_wp2_with fail
  refine (l01Once_c _ _ _ hI.cur).mono ?_; rintro e w4 ⟨z4, rfl, hc4, hb4⟩
  have hJ := hI.go hc4 hb4
  obtain ⟨n4, hn4⟩ := hJ.b3.cellB (j := 7) rfl
  have hf4 := hJ.b3.2.2 7
  clear hc4 hb4 hI
  go_wp2_with fail
  have hI := hJ.setB (j := 7) rfl z4
  clear hJ hn4 hf4
  refine (l01Once_c _ _ _ hI.cur).mono ?_; rintro e w4 ⟨z4, rfl, hc4, hb4⟩
  have hJ := hI.go hc4 hb4
  clear hI hc4 hb4
  obtain ⟨hl3, ⟨r, hr⟩, hf3⟩ := hJ.b3
  obtain ⟨hl2, ⟨r2, hr2⟩, hf2⟩ := hJ.b2
  have x0 := hr 0 _ rfl
  have x1 := hr 1 _ rfl
  have x2 := hr 2 _ rfl
  have x3 := hr 3 _ rfl
  have x4 := hr 4 _ rfl
  have x5 := hr 5 _ rfl
  have x6 := hr 6 _ rfl
  have x7 := hr 7 _ rfl
  have x8 := hr 8 _ rfl
  have xf := hf3 8
  have y0 := hr2 0 _ rfl
  have y1 := hr2 1 _ rfl
  have y2 := hr2 2 _ rfl
  have y3 := hr2 3 _ rfl
  have y4 := hr2 4 _ rfl
  have y5 := hr2 5 _ rfl
  have y6 := hr2 6 _ rfl
  have y7 := hr2 7 _ rfl
  have y8 := hr2 8 _ rfl
  have z0 := hf2 0
  have z1 := hf2 1
  have z2 := hf2 2
  have z3 := hf2 3
  have z4' := hf2 4
  have z5 := hf2 5
  have z6 := hf2 6
  have z7 := hf2 7
  have z8 := hf2 8
  have hne := hJ.ne
  have hne2 : ¬ g3 = g2 := by omega
  have HJ := Lib.hid hJ
  clear hr hr2 hf3 hf2 hJ
  go_wp2_with fail
  have hI := HJ.out.setB (j := 8) rfl z4
  have hp2 : p < g2 := by have := HJ.out.lo2; have := HJ.out.plt; omega
  refine bodyPost_ret (v := itemV (r.s 0) (r.s 1) (r.s 2) (r.s 3) (r.s 4) (r.s 5) (r.s 6) (r.b 7) z4) (by simp [results, Try.results102, go_sem, y0, y1, y2, y3, y4, y5, y6, y7, y8, hne, hne2]) rfl ⟨⟨r.s, fun i => if i = 8 then z4 else r.b i⟩, rfl, ?_, ?_⟩
  · repeat (refine Cur.setNew ?_ hp2 _ _)
    exact hI.cur
  · repeat (refine CB.setNew ?_ HJ.out.lo2 _ _)
    exact hI.cb
set_option maxRecDepth 100000 in
set_option maxHeartbeats 2000000 in
theorem l13Items_c (p : Nat) (w : World) (hc : Cur w p) :
    Calls Try.prog 100 #[.pointer (some ⟨p, 0, none⟩)] w fun r w' => ∃ v L, r = .returned v ∧ w'.ownsRow w.heap.size 48 9 v L.length (RV k_item L) ∧ L.length ≤ 6 ∧ Cur w' p ∧ CB p w w' := by
  have hlt := hc.lt
  go_enter Try.func100, Try.ntmps100
  go_wp2_with fail
  have ho0 : (w.alloc (.cells #[] 48)).ownsRow w.heap.size 48 9 (.slice (some ⟨w.heap.size, 0, none⟩) 0 0) 0 (RV k_item []) := World.ownsRow_lit w #[] 0 (Nat.le_refl _) (by unfold maxLen; omega) rfl
  go_loopw [3, 4] (fun v i wr => ∃ (k : Nat) (L : List Rec), k ≤ 6 ∧ i = .int .i64 k ∧ L.length = k ∧ wr.ownsRow w.heap.size 48 9 v k (RV k_item L) ∧ Cur wr p ∧ CB p w wr) (fun _ i _ => 6 - (intOf i).toNat)
  case atStart => exact ⟨0, [], by omega, by go_num, rfl, ho0, hc.keep ((Bel.refl _).alloc _), (CB.refl _ _).alloc _⟩
  case round =>
    obtain ⟨k, L, hk, rfl, hl, ho, hcr, hb⟩ := hrel
    go_wp2_with fail
    refine (l01Below_c _ _ _ hcr).mono ?_; rintro e w2 ⟨x, rfl, hx, hc2, hb2⟩
    have hx1 := hx.2.1 (by omega)
    have ho2 := own_cb ho hb2 hlt
    clear ho hx
    by_cases hkx : (k : Int) < x
    · go_wp2_with fail
      refine (l13Item_c _ _ hc2).mono ?_; rintro e w3 ⟨y, rfl, hc3, hb3⟩
      have ho3 := own_cb ho2 hb3 hlt
      have hbb := (hb.trans hb2).trans hb3
      have hsz := hbb.sz
      clear ho2
      go_wp2_with (at_builtin; refine appG rfl (.tmp 12) (.tmp 15) 25 48 rfl (itemV 0 0 0 0 0 0 0 false false) 9 64 Try.underlying25 Try.info_item rfl (by decide) (by decide) w.heap.size _ _ _ rfl (ho3.alloc _) w3.heap.size rfl (rcells k_item y) rfl (new_cells _ (rcells k_item y) _) (rcells_one _ _) (by omega) (by simp; omega) ?_; intro v' w4 ho4 hg4 hl4)
      go_roundw
      case rel =>
        have hbl : ∀ q, _ = some q → w.heap.size ≤ q := fun q e => ((ho3.alloc (.cells (rcells k_item y).toArray 48)).lt q e).1
        exact ⟨k + 1, L ++ [y], by omega, by go_num, by simp [hl], by rw [← RV_snoc]; exact ho4, (hc3.keep ((Bel.refl _).alloc _)).grown hg4 (fun q e => by have := hbl q e; omega), (hbb.alloc _).grown hg4 hbl⟩
      case measure => simp [intOf]; omega
    · go_wp2_with fail
      go_ret
      exact ⟨_, L, rfl, by rw [hl]; exact ho2, by omega, hc2, hb.trans hb2⟩
theorem own_sliceV {w : World} {base n size : Nat} {e : TypeId} {v : Value} {xs : List Value} (h : w.ownsRow base e size v n xs) : ∃ A c, v = .slice A n c := by
  rcases h.2 with ⟨h1, h0⟩ | ⟨g, c, cur, h1, _⟩
  · exact ⟨none, 0, by rw [h1, h0]⟩
  · exact ⟨_, c, h1⟩
theorem own_posV {w : World} {base n size : Nat} {e : TypeId} {v : Value} {xs : List Value} (h : w.ownsRow base e size v n xs) (hn : 0 < n) : ∃ g c, v = .slice (some ⟨g, 0, none⟩) n c := by
  rcases h.2 with ⟨_, h0⟩ | ⟨g, c, cur, h1, _⟩
  · omega
  · exact ⟨g, c, h1⟩
def lenV : Value → Nat
  | .slice _ n _ => n
  | _ => 0
theorem row0_set {L : List Rec} (h : 0 < L.length) {j : Nat} (hj : j = 0 ∨ j = 2 ∨ j = 3 ∨ j = 5) (n : Int) : ∃ L', L'.length = L.length ∧ (RV k_item L).set j (.int .i64 n) = RV k_item L' := by
  cases L with
  | nil => simp at h
  | cons r T =>
    refine ⟨⟨fun i => if i = j then n else r.s i, r.b⟩ :: T, rfl, ?_⟩
    rw [RV_cons, RV_cons, List.set_append_left _ _ (by rw [rcells_length]; show j < 9; omega)]
    rcases hj with rfl | rfl | rfl | rfl <;> rfl
theorem row0_cell {w : World} {base g c j : Nat} {L : List Rec} (h : w.ownsRow base 48 9 (.slice (some ⟨g, 0, none⟩) L.length c) L.length (RV k_item L)) (h0 : 0 < L.length) (hj : k_item[j]? = some true) : w.cell? ⟨g, j, none⟩ = some (.int .i64 ((rec_ L 0).s j)) := by
  have hj9 : j < 9 := lt_of_get hj
  rw [h.cellAt j (by omega)]
  have := RV_at (ks := k_item) (L := L) (i := 0) (j := j) h0 hj9
  rw [Nat.zero_mul, Nat.zero_add] at this
  rw [this, rcells_int _ hj]
set_option maxRecDepth 100000 in
set_option maxHeartbeats 2000000 in
theorem l13Any_c (p : Nat) (w : World) (hc : Cur w p) :
    Calls Try.prog 71 #[.pointer (some ⟨p, 0, none⟩)] w fun r w' => ∃ v L, r = .returned v ∧ w'.ownsRow w.heap.size 48 9 v L.length (RV k_item L) ∧ L.length ≤ 13 ∧ Cur w' p ∧ CB p w w' := by
  have hlt := hc.lt
  go_enter Try.func71, Try.ntmps71
  go_wp2_with fail
  refine (l13Items_c _ _ hc).mono ?_; rintro e w1 ⟨v, L, rfl, ho, hl6, hc1, hb1⟩
  obtain ⟨A, c, rfl⟩ := own_sliceV ho
  go_upto_if 8 with fail
  go_cut [] from 8 (fun wx => ∃ L' : List Rec, L'.length = L.length ∧ wx.ownsRow w.heap.size 48 9 (.slice A L.length c) L.length (RV k_item L') ∧ Cur wx p ∧ CB p w wx)
  case first =>
    by_cases h0 : 0 < L.length
    · obtain ⟨g, cg, hg⟩ := own_posV ho h0
      injection hg with hg1 _ hg3
      subst hg1 hg3
      have h0i : (0 : Int) < (L.length : Int) := by omega
      go_wp2_with fail
      refine (l01Below_c _ _ _ hc1).mono ?_; rintro e w2 ⟨x, rfl, hx, hc2, hb2⟩
      have ho2 := own_cb ho hb2 hlt
      clear ho
      by_cases e0 : x = 0
      · go_wp2_with fail
        refine (pickLit_c _ [-1, 1048576, 1048577] _ _ hc2 (by simp) (by simp) (by simp)).mono ?_; rintro e w3 ⟨z, rfl, hz, hc3, hb3⟩
        have ho3 := own_cb ho2 hb3 hlt
        obtain ⟨L', hl', hL'⟩ := row0_set h0 (j := 0) (by omega) z
        have ck := row0_cell (j := 0) ho3 h0 rfl
        have cf := ho3.frozenAt 0
        have hgl := (ho3.lt g rfl).1
        go_wp2_with fail
        go_meet
        exact ⟨L', hl', by rw [← hL']; exact (ho3.stored 0 _).1, hc3.setNew (by omega) _ _, (hb1.trans (hb2.trans hb3)).setNew hgl _ _⟩
      · by_cases e1 : x = 1
        · go_wp2_with fail
          refine (pickLit_c _ [-1, 1000, 1001] _ _ hc2 (by simp) (by simp) (by simp)).mono ?_; rintro e w3 ⟨z, rfl, hz, hc3, hb3⟩
          have ho3 := own_cb ho2 hb3 hlt
          obtain ⟨L', hl', hL'⟩ := row0_set h0 (j := 3) (by omega) z
          have ck := row0_cell (j := 3) ho3 h0 rfl
          have cf := ho3.frozenAt 3
          have hgl := (ho3.lt g rfl).1
          go_wp2_with fail
          go_meet
          exact ⟨L', hl', by rw [← hL']; exact (ho3.stored 3 _).1, hc3.setNew (by omega) _ _, (hb1.trans (hb2.trans hb3)).setNew hgl _ _⟩
        · by_cases e2 : x = 2
          · go_wp2_with fail
            refine (pickLit_c _ [-2, 1048577, 0] _ _ hc2 (by simp) (by simp) (by simp)).mono ?_; rintro e w3 ⟨z, rfl, hz, hc3, hb3⟩
            have ho3 := own_cb ho2 hb3 hlt
            obtain ⟨L', hl', hL'⟩ := row0_set h0 (j := 2) (by omega) z
            have ck := row0_cell (j := 2) ho3 h0 rfl
            have cf := ho3.frozenAt 2
            have hgl := (ho3.lt g rfl).1
            go_wp2_with fail
            go_meet
            exact ⟨L', hl', by rw [← hL']; exact (ho3.stored 2 _).1, hc3.setNew (by omega) _ _, (hb1.trans (hb2.trans hb3)).setNew hgl _ _⟩
          · by_cases e3 : x = 3
            · go_wp2_with fail
              refine (pickLit_c _ [1048577, -1048576, 1048576] _ _ hc2 (by simp) (by simp) (by simp)).mono ?_; rintro e w3 ⟨z, rfl, hz, hc3, hb3⟩
              have ho3 := own_cb ho2 hb3 hlt
              obtain ⟨L', hl', hL'⟩ := row0_set h0 (j := 5) (by omega) z
              have ck := row0_cell (j := 5) ho3 h0 rfl
              have cf := ho3.frozenAt 5
              have hgl := (ho3.lt g rfl).1
              go_wp2_with fail
              go_meet
              exact ⟨L', hl', by rw [← hL']; exact (ho3.stored 5 _).1, hc3.setNew (by omega) _ _, (hb1.trans (hb2.trans hb3)).setNew hgl _ _⟩
            · go_wp2_with fail
              go_meet
              exact ⟨L, rfl, ho2, hc2, hb1.trans hb2⟩
    · have h0i : ¬ (0 : Int) < (L.length : Int) := by omega
      go_wp2_with fail
      go_meet
      exact ⟨L, rfl, ho, hc1, hb1⟩
  case rest =>
  obtain ⟨L', hl', ho', hc', hb'⟩ := hcut
  clear ho hc1 hb1
  rw [← hl'] at ho' hl6 ⊢
  clear hl' L
  go_wp2_with fail
  refine (l01Once_c _ _ _ hc').mono ?_; rintro e w4 ⟨b, rfl, hc4, hb4⟩
  have ho4 := own_cb ho' hb4 hlt
  have hbb := hb'.trans hb4
  clear ho' hb' hb4 hc'
  cases b
  · go_wp2_with fail
    go_ret
    exact ⟨_, L', rfl, ho4, by omega, hc4, hbb⟩
  · go_wp2_with fail
    go_loopw [3] (fun v wr => ∃ M : List Rec, M.length ≤ 13 ∧ wr.ownsRow w.heap.size 48 9 v M.length (RV k_item M) ∧ Cur wr p ∧ CB p w wr) (fun v _ => 13 - lenV v)
    case atStart => exact ⟨L', by omega, ho4, hc4, hbb⟩
    case round =>
      obtain ⟨M, hM, hoM, hcM, hbM⟩ := hrel
      obtain ⟨A', c', rfl⟩ := own_sliceV hoM
      go_wp2_with fail
      refine (l01Below_c _ _ _ hcM).mono ?_; rintro e w5 ⟨x, rfl, hx, hc5, hb5⟩
      have hx0 := hx.1
      have hx1 := hx.2.1 (by omega)
      have ho5 := own_cb hoM hb5 hlt
      clear hoM hx
      by_cases hkx : (M.length : Int) < 12 + x
      · go_wp2_with fail
        refine (l13Item_c _ _ hc5).mono ?_; rintro e w6 ⟨y, rfl, hc6, hb6⟩
        have ho6 := own_cb ho5 hb6 hlt
        have hbb6 := (hbM.trans hb5).trans hb6
        have hsz := hbb6.sz
        clear ho5
        go_wp2_with (at_builtin; refine appG rfl (.tmp 51) (.tmp 54) 25 48 rfl (itemV 0 0 0 0 0 0 0 false false) 9 64 Try.underlying25 Try.info_item rfl (by decide) (by decide) w.heap.size _ _ _ rfl (ho6.alloc _) w6.heap.size rfl (rcells k_item y) rfl (new_cells _ (rcells k_item y) _) (rcells_one _ _) (by omega) (by simp; omega) ?_; intro v' w7 ho7 hg7 hl7)
        have hbl : ∀ q, _ = some q → w.heap.size ≤ q := fun q e => ((ho6.alloc (.cells (rcells k_item y).toArray 48)).lt q e).1
        obtain ⟨A7, c7, rfl⟩ := own_sliceV ho7
        go_roundw
        case rel =>
          exact ⟨M ++ [y], by simp; omega, by rw [← RV_snoc, List.length_append]; exact ho7, (hc6.keep ((Bel.refl _).alloc _)).grown hg7 (fun q e => by have := hbl q e; omega), (hbb6.alloc _).grown hg7 hbl⟩
        case measure => simp [lenV]; omega
      · go_wp2_with fail
        go_ret
        exact ⟨_, M, rfl, ho5, hM, hc5, hbM.trans hb5⟩
end Go.Proofs.Ytmipjhnjlpmidaa
