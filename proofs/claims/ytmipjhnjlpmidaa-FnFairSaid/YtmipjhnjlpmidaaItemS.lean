/- Slices of Item: the law's own helpers. -/
import Derived.Test.YtmipjhnjlpmidaaRecs
import Derived.Test.YtmipjhnjlpmidaaItem
namespace Go.Proofs.Ytmipjhnjlpmidaa
open Go.RowKit Go.ChangeShapes Go.WideShapes
set_option linter.unusedVariables false
set_option linter.unusedSimpArgs false

def k_item : List Bool := [true, true, true, true, true, true, true, false, false]
theorem Try.info_item : (Try.prog.info? 48).map (fun i => (i.zero, i.size, i.bytes)) = some (some (itemV 0 0 0 0 0 0 0 false false), 9, 64) := by kernel_rfl

set_option maxRecDepth 100000 in
set_option maxHeartbeats 400000 in
theorem eqItem_c (a : Int) (b : Int) (c : Int) (d : Int) (e : Int) (f : Int) (g : Int) (h : Bool) (i : Bool) (w : World) :
    Calls Try.prog 59 #[itemV a b c d e f g h i, itemV a b c d e f g h i] w fun r w' => r = .returned (.bool true) ∧ Bel w w' := by
  go_enter Try.func59, Try.ntmps59
  go_wp2
  go_ret
  refine ⟨by simp, ?_⟩
  repeat (first | exact Bel.refl _ | assumption | refine Bel.alloc ?_ _ | refine Bel.drew ?_ | refine Bel.drewN ?_ _ | refine Bel.trans ?_ (by assumption) | refine Bel.setCell ?_ (by first | (simp; done) | (simp; omega) | (simp at *; omega)) _)

/-- the cells of the element at k -/
theorem item_cells {w : World} {b o k : Nat} {L : List Rec} (h : ∀ i', i' < L.length → ∀ j v, (rcells k_item (rec_ L i'))[j]? = some v → w.cell? ⟨b, o + i' * k_item.length + j, none⟩ = some v) (hk : k < L.length) :
    w.cell? ⟨b, o + k * 9, none⟩ = some (.int .i64 ((rec_ L k).s 0)) ∧ w.cell? ⟨b, o + k * 9 + 1, none⟩ = some (.int .i64 ((rec_ L k).s 1)) ∧ w.cell? ⟨b, o + k * 9 + 2, none⟩ = some (.int .i64 ((rec_ L k).s 2)) ∧ w.cell? ⟨b, o + k * 9 + 3, none⟩ = some (.int .i64 ((rec_ L k).s 3)) ∧ w.cell? ⟨b, o + k * 9 + 4, none⟩ = some (.int .i64 ((rec_ L k).s 4)) ∧ w.cell? ⟨b, o + k * 9 + 5, none⟩ = some (.int .i64 ((rec_ L k).s 5)) ∧ w.cell? ⟨b, o + k * 9 + 6, none⟩ = some (.int .i64 ((rec_ L k).s 6)) ∧ w.cell? ⟨b, o + k * 9 + 7, none⟩ = some (.bool ((rec_ L k).b 7)) ∧ w.cell? ⟨b, o + k * 9 + 8, none⟩ = some (.bool ((rec_ L k).b 8)) :=
  ⟨h k hk 0 _ rfl, h k hk 1 _ rfl, h k hk 2 _ rfl, h k hk 3 _ rfl, h k hk 4 _ rfl, h k hk 5 _ rfl, h k hk 6 _ rfl, h k hk 7 _ rfl, h k hk 8 _ rfl⟩
set_option maxRecDepth 100000 in
set_option maxHeartbeats 2000000 in
theorem toItemS_c (A : Option Addr) (c : Nat) (L : List Rec) (w : World) (h : Recs w A k_item L) (hn : L.length ≤ 1048576) :
    Calls Try.prog 12 #[.slice A L.length c] w fun r w' =>
      r = .returned (.slice (some ⟨w.heap.size, 0, none⟩) L.length L.length) ∧ w'.ownsRow w.heap.size 48 9 (.slice (some ⟨w.heap.size, 0, none⟩) L.length L.length) L.length (RV k_item L) ∧ Bel w w' := by
  obtain ⟨i0, hi, hz0, hz1, hz2⟩ := info_parts Try.info_item
  go_enter Try.func12, Try.ntmps12
  go_wp2_with (at_make; refine wpList_make_full w rfl (.tmp 6) (.tmp 6) 25 rfl w.heap.size 48 i0 (itemV 0 0 0 0 0 0 0 false false) 9 Try.underlying25 hi hz0 hz1 .i64 .i64 L.length L.length L.length rfl rfl rfl rfl (by rw [hz2]; omega) (by unfold maxLen; omega) (Nat.le_refl _) ?_; intro w1 hown hg)
  have hb1 : Bel w w1 := (Bel.refl w).grown hg (by simp)
  go_loopw [4] (fun i wr => ∃ (k : Nat) (xs : List Value), k ≤ L.length ∧ i = .int .i64 k ∧ wr.ownsRow w.heap.size 48 9 (.slice (some ⟨w.heap.size, 0, none⟩) L.length L.length) L.length xs ∧ (∀ j, j < k * 9 → xs[j]? = (RV k_item L)[j]?) ∧ Bel w wr) (fun i _ => L.length - (intOf i).toNat)
  case atStart => exact ⟨0, _, Nat.zero_le _, rfl, hown, fun j hj => absurd hj (by omega), hb1⟩
  case round =>
    obtain ⟨k, xs, hk, rfl, ho, hx, hb⟩ := hrel
    have hX := Lib.hid hx
    clear hx
    by_cases hlt : k < L.length
    · obtain ⟨b, o, rfl, hbl, hc⟩ := h k hlt
      obtain ⟨hc0, hc1, hc2, hc3, hc4, hc5, hc6, hc7, hc8⟩ := item_cells hc hlt
      have hd0 := (hb.cell _ _ hbl).trans hc0
      have hd1 := (hb.cell _ _ hbl).trans hc1
      have hd2 := (hb.cell _ _ hbl).trans hc2
      have hd3 := (hb.cell _ _ hbl).trans hc3
      have hd4 := (hb.cell _ _ hbl).trans hc4
      have hd5 := (hb.cell _ _ hbl).trans hc5
      have hd6 := (hb.cell _ _ hbl).trans hc6
      have hd7 := (hb.cell _ _ hbl).trans hc7
      have hd8 := (hb.cell _ _ hbl).trans hc8
      clear hc hc0 hc1 hc2 hc3 hc4 hc5 hc6 hc7 hc8
      have e0 : k * 9 < L.length * 9 := by omega
      have e1 : k * 9 + 1 < L.length * 9 := by omega
      have e2 : k * 9 + 2 < L.length * 9 := by omega
      have e3 : k * 9 + 3 < L.length * 9 := by omega
      have e4 : k * 9 + 4 < L.length * 9 := by omega
      have e5 : k * 9 + 5 < L.length * 9 := by omega
      have e6 : k * 9 + 6 < L.length * 9 := by omega
      have e7 : k * 9 + 7 < L.length * 9 := by omega
      have e8 : k * 9 + 8 < L.length * 9 := by omega
      go_wp2_with fail
      refine (toItem_c _ _ _ _ _ _ _ _ _ _).mono ?_; rintro e w2 ⟨rfl, hb2⟩
      have ho2 := own_keep ho hb2
      obtain ⟨u0, hu0⟩ : ∃ u, w2.cell? ⟨w.heap.size, k * 9, none⟩ = some u := ⟨_, by rw [ho2.cellAt _ e0]; exact List.getElem?_eq_getElem (by have := ho2.1; omega)⟩
      obtain ⟨u1, hu1⟩ : ∃ u, w2.cell? ⟨w.heap.size, k * 9 + 1, none⟩ = some u := ⟨_, by rw [ho2.cellAt _ e1]; exact List.getElem?_eq_getElem (by have := ho2.1; omega)⟩
      obtain ⟨u2, hu2⟩ : ∃ u, w2.cell? ⟨w.heap.size, k * 9 + 2, none⟩ = some u := ⟨_, by rw [ho2.cellAt _ e2]; exact List.getElem?_eq_getElem (by have := ho2.1; omega)⟩
      obtain ⟨u3, hu3⟩ : ∃ u, w2.cell? ⟨w.heap.size, k * 9 + 3, none⟩ = some u := ⟨_, by rw [ho2.cellAt _ e3]; exact List.getElem?_eq_getElem (by have := ho2.1; omega)⟩
      obtain ⟨u4, hu4⟩ : ∃ u, w2.cell? ⟨w.heap.size, k * 9 + 4, none⟩ = some u := ⟨_, by rw [ho2.cellAt _ e4]; exact List.getElem?_eq_getElem (by have := ho2.1; omega)⟩
      obtain ⟨u5, hu5⟩ : ∃ u, w2.cell? ⟨w.heap.size, k * 9 + 5, none⟩ = some u := ⟨_, by rw [ho2.cellAt _ e5]; exact List.getElem?_eq_getElem (by have := ho2.1; omega)⟩
      obtain ⟨u6, hu6⟩ : ∃ u, w2.cell? ⟨w.heap.size, k * 9 + 6, none⟩ = some u := ⟨_, by rw [ho2.cellAt _ e6]; exact List.getElem?_eq_getElem (by have := ho2.1; omega)⟩
      obtain ⟨u7, hu7⟩ : ∃ u, w2.cell? ⟨w.heap.size, k * 9 + 7, none⟩ = some u := ⟨_, by rw [ho2.cellAt _ e7]; exact List.getElem?_eq_getElem (by have := ho2.1; omega)⟩
      obtain ⟨u8, hu8⟩ : ∃ u, w2.cell? ⟨w.heap.size, k * 9 + 8, none⟩ = some u := ⟨_, by rw [ho2.cellAt _ e8]; exact List.getElem?_eq_getElem (by have := ho2.1; omega)⟩
      have hf : ∀ j, w2.frozen? ⟨w.heap.size, j, none⟩ = false := fun j => ho2.frozenAt j
      have S0 := ho2.stored (k * 9) (.int .i64 ((rec_ L k).s 0))
      have S1 := S0.1.stored (k * 9 + 1) (.int .i64 ((rec_ L k).s 1))
      have S2 := S1.1.stored (k * 9 + 2) (.int .i64 ((rec_ L k).s 2))
      have S3 := S2.1.stored (k * 9 + 3) (.int .i64 ((rec_ L k).s 3))
      have S4 := S3.1.stored (k * 9 + 4) (.int .i64 ((rec_ L k).s 4))
      have S5 := S4.1.stored (k * 9 + 5) (.int .i64 ((rec_ L k).s 5))
      have S6 := S5.1.stored (k * 9 + 6) (.int .i64 ((rec_ L k).s 6))
      have S7 := S6.1.stored (k * 9 + 7) (.bool ((rec_ L k).b 7))
      have S8 := S7.1.stored (k * 9 + 8) (.bool ((rec_ L k).b 8))
      have SS := Lib.hid S8.1
      clear S0 S1 S2 S3 S4 S5 S6 S7 S8 e0 e1 e2 e3 e4 e5 e6 e7 e8
      go_wp2
      go_roundw
      case rel =>
        exact ⟨k + 1, setRun xs (k * 9) (rcells k_item (rec_ L k)), by omega, by go_num, SS.out, run_step (ks := k_item) ho.1 hlt hX.out,
          (((((((((hb.trans hb2).setCell (Nat.le_refl _) _).setCell (Nat.le_refl _) _).setCell (Nat.le_refl _) _).setCell (Nat.le_refl _) _).setCell (Nat.le_refl _) _).setCell (Nat.le_refl _) _).setCell (Nat.le_refl _) _).setCell (Nat.le_refl _) _).setCell (Nat.le_refl _) _⟩
      case measure => simp [intOf]; omega
    · obtain rfl : k = L.length := by omega
      go_wp2
      go_ret
      refine ⟨rfl, ?_, hb⟩
      rw [← run_done (ks := k_item) ho.1 hX.out]
      exact ho
set_option maxRecDepth 100000 in
set_option maxHeartbeats 2000000 in
theorem eqItemS_c (A B : Option Addr) (c d : Nat) (L : List Rec) (w : World) (ha : Recs w A k_item L) (hb : Recs w B k_item L) (hn : L.length ≤ 1048576) :
    Calls Try.prog 14 #[.slice A L.length c, .slice B L.length d] w fun r w' => r = .returned (.bool true) ∧ Bel w w' := by
  go_enter Try.func14, Try.ntmps14
  go_wp2_with fail
  go_loopw [5] (fun i wr => ∃ (k : Nat), k ≤ L.length ∧ i = .int .i64 k ∧ Bel w wr) (fun i _ => L.length - (intOf i).toNat)
  case atStart => exact ⟨0, Nat.zero_le _, rfl, Bel.refl w⟩
  case round =>
    obtain ⟨k, hk, rfl, hbw⟩ := hrel
    by_cases hlt : k < L.length
    · obtain ⟨b, o, rfl, hbl, hc⟩ := ha k hlt
      obtain ⟨b2, o2, rfl, hbl2, hc2⟩ := hb k hlt
      obtain ⟨hx0, hx1, hx2, hx3, hx4, hx5, hx6, hx7, hx8⟩ := item_cells hc hlt
      obtain ⟨hy0, hy1, hy2, hy3, hy4, hy5, hy6, hy7, hy8⟩ := item_cells hc2 hlt
      have hd0 := (hbw.cell _ _ hbl).trans hx0
      have he0 := (hbw.cell _ _ hbl2).trans hy0
      have hd1 := (hbw.cell _ _ hbl).trans hx1
      have he1 := (hbw.cell _ _ hbl2).trans hy1
      have hd2 := (hbw.cell _ _ hbl).trans hx2
      have he2 := (hbw.cell _ _ hbl2).trans hy2
      have hd3 := (hbw.cell _ _ hbl).trans hx3
      have he3 := (hbw.cell _ _ hbl2).trans hy3
      have hd4 := (hbw.cell _ _ hbl).trans hx4
      have he4 := (hbw.cell _ _ hbl2).trans hy4
      have hd5 := (hbw.cell _ _ hbl).trans hx5
      have he5 := (hbw.cell _ _ hbl2).trans hy5
      have hd6 := (hbw.cell _ _ hbl).trans hx6
      have he6 := (hbw.cell _ _ hbl2).trans hy6
      have hd7 := (hbw.cell _ _ hbl).trans hx7
      have he7 := (hbw.cell _ _ hbl2).trans hy7
      have hd8 := (hbw.cell _ _ hbl).trans hx8
      have he8 := (hbw.cell _ _ hbl2).trans hy8
      clear hc hc2 hx0 hy0 hx1 hy1 hx2 hy2 hx3 hy3 hx4 hy4 hx5 hy5 hx6 hy6 hx7 hy7 hx8 hy8
      have hlti : (k : Int) < (L.length : Int) := by omega
      go_wp2_with fail
      go_still_tail 8, (by kernel_rfl)
      change wpList _ _ _ _ _ wr.drew
      have hbw2 := hbw.drew
      generalize wr.drew = w2 at hbw2
      go_wp2_with fail
      refine (eqItem_c _ _ _ _ _ _ _ _ _ _).mono ?_; rintro e w3 ⟨rfl, hb3⟩
      go_wp2_with fail
      go_roundw
      case rel => exact ⟨k + 1, by omega, by go_num, hbw2.trans hb3⟩
      case measure => simp [intOf]; omega
    · go_wp2
      go_ret
      exact ⟨rfl, hbw⟩
set_option maxRecDepth 100000 in
set_option maxHeartbeats 400000 in
theorem szItemS_c (A : Option Addr) (c n : Nat) (m : Int) (w : World) (hm : 0 ≤ m ∧ m ≤ 1048576) (hn : n ≤ 9223372036854775807) :
    Calls Try.prog 10 #[.slice A n c, .int .i64 m] w fun r w' => r = .returned (.int .i64 (if (n : Int) ≤ m then m - n else -1)) ∧ w = w' := by
  by_cases h : (n : Int) ≤ m
  · rw [if_pos h]
    go_enter Try.func10, Try.ntmps10
    go_wp2
    go_ret
    exact ⟨rfl, rfl⟩
  · rw [if_neg h]
    go_enter Try.func10, Try.ntmps10
    go_wp2
    go_ret
    exact ⟨rfl, rfl⟩
end Go.Proofs.Ytmipjhnjlpmidaa
