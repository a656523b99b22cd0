/- Flexing, the reference's text: weight, most, free. -/
import Derived.Test.YtmipjhnjlpmidaaFlexM
import Derived.Deep.RegionWith
import Derived.Deep.RegionHeld3
namespace Go.Proofs.Ytmipjhnjlpmidaa
open Go.RowKit Go.ChangeShapes Go.WideShapes
set_option linter.unusedVariables false
set_option linter.unusedSimpArgs false

theorem wt_mul {L : List Rec} {i : Nat} (h : ItemIn (rec_ L i)) : 0 ≤ (rec_ L i).s 4 * (rec_ L i).s 0 ∧ (rec_ L i).s 4 * (rec_ L i).s 0 ≤ 1048576000 := by
  have := mul_pos_bd h.shrink h.base
  omega
set_option maxRecDepth 100000 in
set_option maxHeartbeats 1000000 in
theorem sWeight_c0 {w : World} {p : Nat} {A : Option Addr} {c : Nat} {L : List Rec} {g : Bool} (hR : Recs w A k_item L) (hok : itemsOk L = true) (c0 : w.cell? ⟨p, 0, none⟩ = some (.slice A L.length c)) (c3 : w.cell? ⟨p, 3, none⟩ = some (.bool g)) (i : Nat) (hi : i < L.length) :
    Calls Try.prog 90 #[.pointer (some ⟨p, 0, none⟩), .int .i64 i] w fun e w' => e = .returned (.int .i64 (wt L g i)) ∧ Bel w w' := by
  have hx := (itemsOk_at hok).2 i hi
  have hm := wt_mul hx
  obtain ⟨b, o, rfl, hbl, hc⟩ := hR i hi
  obtain ⟨x0, x1, x2, x3, x4, x5, x6, x7, x8⟩ := item_cells hc hi
  have hii : (i : Int) < (L.length : Int) := by omega
  have q1 : IntKind.i64.wrap ((rec_ L i).s 4 * (rec_ L i).s 0) = (rec_ L i).s 4 * (rec_ L i).s 0 := IntWalk.i64_in _ (by omega)
  clear hc hx hR
  cases g
  · go_enter Try.func90, Try.ntmps90
    go_wp2_with fail
    go_quiet (fail)
    go_wp2_with fail
    go_ret
    exact ⟨by simp [wt], (Bel.refl _).drewN _⟩
  · clear q1 hm
    go_enter Try.func90, Try.ntmps90
    go_wp2_with fail
    go_ret
    exact ⟨by simp [wt], Bel.refl _⟩
theorem sWeight_c {w0 w : World} {p ph pz : Nat} {A : Option Addr} {c : Nat} {L : List Rec} {gap inner : Int} {g : Bool} {H Z : Option Addr} {ch cz : Nat} {hd : Nat → Bool} {z : Nat → Int} {ps : Int} (hF : Fl w0 w p ph pz A c L gap inner g H Z ch cz hd z ps) (hR : Recs w0 A k_item L) (hok : itemsOk L = true) (i : Nat) (hi : i < L.length) :
    Calls Try.prog 90 #[.pointer (some ⟨p, 0, none⟩), .int .i64 i] w fun e w' => e = .returned (.int .i64 (wt L g i)) ∧ Bel w w' :=
  sWeight_c0 (hR.keep hF.bel) hok hF.c0 hF.c3 i hi
def mostS (b c : Int) : Int := if 0 ≤ c ∧ c < b then b else c
theorem mostS_up {r : Rec} (h : 0 ≤ r.s 2) : mostS (r.s 1) (r.s 2) = upR r := by
  unfold mostS upR
  by_cases h1 : r.s 2 < r.s 1
  · rw [if_pos ⟨h, h1⟩, if_pos h1]
  · rw [if_neg (by omega), if_neg h1]
set_option maxRecDepth 100000 in
set_option maxHeartbeats 1000000 in
theorem sMost_c (a b c d e f g : Int) (h i : Bool) (w : World) :
    Calls Try.prog 113 #[itemV a b c d e f g h i] w fun r w' => r = .returned (.int .i64 (mostS b c)) ∧ Bel w w' := by
  by_cases h0 : 0 ≤ c
  · by_cases h1 : c < b
    · go_enter Try.func113, Try.ntmps113
      go_wp2_with fail
      all_goals (go_ret; refine ⟨by (simp [mostS]; try omega), ?_⟩)
      all_goals
        repeat (first | exact Bel.refl _ | assumption | refine Bel.alloc ?_ _ | refine Bel.drew ?_ | refine Bel.drewN ?_ _ | refine Bel.trans ?_ (by assumption) | refine Bel.setCell ?_ (by first | (simp; done) | (simp; omega) | (simp at *; omega)) _)
    · go_enter Try.func113, Try.ntmps113
      go_wp2_with fail
      all_goals (go_ret; refine ⟨by (simp [mostS]; try omega), ?_⟩)
      all_goals
        repeat (first | exact Bel.refl _ | assumption | refine Bel.alloc ?_ _ | refine Bel.drew ?_ | refine Bel.drewN ?_ _ | refine Bel.trans ?_ (by assumption) | refine Bel.setCell ?_ (by first | (simp; done) | (simp; omega) | (simp at *; omega)) _)
  · go_enter Try.func113, Try.ntmps113
    go_wp2_with fail
    all_goals (go_ret; refine ⟨by (simp [mostS]; try omega), ?_⟩)
    all_goals
      repeat (first | exact Bel.refl _ | assumption | refine Bel.alloc ?_ _ | refine Bel.drew ?_ | refine Bel.drewN ?_ _ | refine Bel.trans ?_ (by assumption) | refine Bel.setCell ?_ (by first | (simp; done) | (simp; omega) | (simp at *; omega)) _)
set_option maxRecDepth 100000 in
set_option maxHeartbeats 1000000 in
theorem sFree_c {w0 w : World} {p : Nat} {A : Option Addr} {c : Nat} {L : List Rec} {gap inner : Int} {g : Bool} {H Z : Option Addr} {ch cz : Nat} {S : Fx} {ps : Int} (hF : Fl w0 w p 4 5 A c L gap inner g H Z ch cz S.hd (baseSz L S) ps) (hR : Recs w0 A k_item L) (hok : itemsOk L = true) :
    Calls Try.prog 112 #[.pointer (some ⟨p, 0, none⟩)] w fun e w' => e = .returned (.int .i64 (restOf L g gap inner S)) ∧ Bel w w' := by
  have h12 := (itemsOk_at hok).1
  have c0 := hF.c0
  have c1 := hF.c1
  have c2 := hF.c2
  have c3 := hF.c3
  have c5 := hF.kz
  have hI := Lib.hid hF.ints
  have HR := Lib.hid (hR.keep hF.bel)
  have hlt := hF.plt
  obtain ⟨r, hr⟩ : ∃ r, wrap64 (inner - outerOf L (rowOf L.length (baseSz L S)) gap) = r := ⟨_, rfl⟩
  have HV : Hid (restOf L g gap inner S = signed (clip g r)) := hid' (by unfold restOf; rw [hr])
  have hl := rowOf_length L.length (baseSz L S)
  have HO : Hid (∀ u, Bel w u → Calls Try.prog 52 #[.slice A L.length c, .slice Z L.length cz, .int .i64 gap] u fun r w' => r = .returned (.int .i64 (outerOf L (rowOf L.length (baseSz L S)) gap)) ∧ Bel u w') := hid' (fun u hu => by
    have := sOuterOf_c A c L Z cz (rowOf L.length (baseSz L S)) gap u (HR.out.keep hu) (hI.out.keep hu) (by omega) (by omega)
    rw [hl] at this
    exact this)
  have HSS : Hid (∀ u, Bel w u → u.cell? ⟨p, 0, none⟩ = some (.slice A L.length c) ∧ u.cell? ⟨p, 1, none⟩ = some (.int .i64 gap) ∧ u.cell? ⟨p, 2, none⟩ = some (.int .i64 inner) ∧ u.cell? ⟨p, 5, none⟩ = some (.slice Z L.length cz)) := hid' (fun u hu => ⟨(hu.cell _ _ hlt).trans c0, (hu.cell _ _ hlt).trans c1, (hu.cell _ _ hlt).trans c2, (hu.cell _ _ hlt).trans c5⟩)
  clear hF hR hI HR hl c0 c1 c2 c5
  go_enter Try.func112, Try.ntmps112
  go_wp2_with fail
  have hd0 : Bel w w.drew := (Bel.refl w).drew
  go_region_held3 (fun u => u.cell? ⟨p, 0, none⟩ = some (.slice A L.length c) ∧ u.cell? ⟨p, 1, none⟩ = some (.int .i64 gap) ∧ u.cell? ⟨p, 2, none⟩ = some (.int .i64 inner) ∧ u.cell? ⟨p, 5, none⟩ = some (.slice Z L.length cz))
    ((with_reducible first | exact HSS.out _ hbw | exact HSS.out _ hd0))
    (first | (go_at_call 52; refine (HO.out _ hd0).mono ?_; rintro e w1 ⟨rfl, hb1⟩; have hbw := hd0.trans hb1))
  have d3 := (hbw.cell _ 3 hlt).trans c3
  cases g
  · by_cases h0 : 0 < r
    · have HZ : Hid (signed (clip false r) = 0) := hid' (by unfold clip; rw [if_pos (by simp; omega)]; rfl)
      go_wp2_with fail
      go_ret
      exact ⟨by (show Ending.returned (.int .i64 0) = _; rw [HV.out, HZ.out]), hbw⟩
    · have HC : Hid (clip false r = r) := hid' (by unfold clip; rw [if_neg (by simp; omega)])
      go_wp2_with fail
      refine (l02Len_c _ _).mono ?_; rintro e w2 ⟨rfl, rfl⟩
      go_wp2_with fail
      go_ret
      exact ⟨by (rw [HV.out, HC.out]; rfl), hbw⟩
  · by_cases h0 : r < 0
    · have HZ : Hid (signed (clip true r) = 0) := hid' (by unfold clip; rw [if_pos (by simp; omega)]; rfl)
      go_wp2_with fail
      go_ret
      exact ⟨by (show Ending.returned (.int .i64 0) = _; rw [HV.out, HZ.out]), hbw⟩
    · have HC : Hid (clip true r = r) := hid' (by unfold clip; rw [if_neg (by simp; omega)])
      go_wp2_with fail
      refine (l02Len_c _ _).mono ?_; rintro e w2 ⟨rfl, rfl⟩
      go_wp2_with fail
      go_ret
      exact ⟨by (rw [HV.out, HC.out]; rfl), hbw⟩
end Go.Proofs.Ytmipjhnjlpmidaa
