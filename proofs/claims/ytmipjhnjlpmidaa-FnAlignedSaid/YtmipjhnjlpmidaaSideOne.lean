/- PlaceAcross, both texts. -/
import Derived.Test.YtmipjhnjlpmidaaSides
import Derived.Test.YtmipjhnjlpmidaaShares
namespace Go.Proofs.Ytmipjhnjlpmidaa
open Go.RowKit
set_option linter.unusedVariables false
set_option linter.unusedSimpArgs false

theorem wrap64_bd (n : Int) : -9223372036854775808 ≤ wrap64 n ∧ wrap64 n ≤ 9223372036854775807 := by unfold wrap64; omega
def acrossFree (a b c cross : Int) : Int := wrap64 (wrap64 (wrap64 (cross - a) - b) - c)
def placeAcross (a b c : Int) (d e : Bool) (f g cross base : Int) : Int :=
  if sideOk a b c f g = true then
    if (d || e) = true ∧ (acrossFree a b c cross ≤ 0 ∨ d = false) then b
    else if d = true ∧ e = false then wrap64 (b + acrossFree a b c cross)
    else if d = true then wrap64 (b + floorDiv (acrossFree a b c cross) 2)
    else if f = 3 then wrap64 (b + acrossFree a b c cross)
    else if f = 4 then wrap64 (b + floorDiv (acrossFree a b c cross) 2)
    else if f = 5 then wrap64 (base - g)
    else b
  else 0

theorem quietL {P : Program} {f : FuncId} {args : Array Value} {w : World} {n : Nat} {v : Value} (h : Calls P f args (w.drewN n) fun e w' => e = .returned v ∧ w.drewN n = w') : Calls P f args (w.drewN n) fun e w'' => e = .returned v ∧ ∃ m, w'' = w.drewN m :=
  h.mono fun _ _ ⟨he, hm⟩ => ⟨he, n, hm.symm⟩

set_option maxRecDepth 100000 in
set_option maxHeartbeats 4000000 in
theorem iPlaceAcross_c (a b c : Int) (d e : Bool) (f g cross base : Int) (w : World) :
    Calls Try.prog 36 #[sideV a b c d e f g, .int .i64 cross, .int .i64 base] w fun r w' => r = .returned (.int .i64 (placeAcross a b c d e f g cross base)) ∧ Bel w w' := by
  have hEb := wrap64_bd (wrap64 (wrap64 (cross - a) - b) - c)
  cases hs : sideOk a b c f g with
  | false =>
    have HP : Hid (placeAcross a b c d e f g cross base = 0) := hid' (by simp [placeAcross, hs])
    go_enter Try.func36, Try.ntmps36
    go_wp2_with fail
    refine (iSideOk_c _ _ _ _ _ _ _ _).mono ?_; rintro r w1 ⟨rfl, hb1⟩
    obtain ⟨hc1, -, hz1⟩ := hb1.open_
    have hl1 : w.heap.size < w1.heap.size := by (try simp at hz1); omega
    go_wp2_with fail
    go_ret
    refine ⟨by rw [HP.out]; rfl, ?_⟩
    repeat (first | exact Bel.refl _ | assumption | refine Bel.alloc ?_ _ | refine Bel.drew ?_ | refine Bel.drewN ?_ _ | refine Bel.trans ?_ (by assumption) | refine Bel.setCell ?_ (by first | (simp; done) | (simp; omega) | (simp at *; omega)) _)
  | true =>
    cases d with
    | false =>
      cases e with
      | true =>
        have HP : Hid (placeAcross a b c false true f g cross base = b) := hid' (by simp [placeAcross, hs])
        go_enter Try.func36, Try.ntmps36
        go_wp2_with fail
        refine (iSideOk_c _ _ _ _ _ _ _ _).mono ?_; rintro r w1 ⟨rfl, hb1⟩
        obtain ⟨hc1, -, hz1⟩ := hb1.open_
        have hl1 : w.heap.size < w1.heap.size := by (try simp at hz1); omega
        go_wp2_with fail
        by_cases h0 : wrap64 (wrap64 (wrap64 (cross - a) - b) - c) ≤ 0
        all_goals
          go_wp2_with fail
          go_ret
          refine ⟨by rw [HP.out]; rfl, ?_⟩
          repeat (first | exact Bel.refl _ | assumption | refine Bel.alloc ?_ _ | refine Bel.drew ?_ | refine Bel.drewN ?_ _ | refine Bel.trans ?_ (by assumption) | refine Bel.setCell ?_ (by first | (simp; done) | (simp; omega) | (simp at *; omega)) _)
      | false =>
        by_cases h3 : f = 3
        · subst h3
          have HP : Hid (placeAcross a b c false false 3 g cross base = wrap64 (b + wrap64 (wrap64 (wrap64 (cross - a) - b) - c))) := hid' (by simp [placeAcross, hs, acrossFree])
          go_enter Try.func36, Try.ntmps36
          go_wp2_with fail
          refine (iSideOk_c _ _ _ _ _ _ _ _).mono ?_; rintro r w1 ⟨rfl, hb1⟩
          obtain ⟨hc1, -, hz1⟩ := hb1.open_
          have hl1 : w.heap.size < w1.heap.size := by (try simp at hz1); omega
          go_wp2_with fail
          go_ret
          refine ⟨by rw [HP.out]; rfl, ?_⟩
          repeat (first | exact Bel.refl _ | assumption | refine Bel.alloc ?_ _ | refine Bel.drew ?_ | refine Bel.drewN ?_ _ | refine Bel.trans ?_ (by assumption) | refine Bel.setCell ?_ (by first | (simp; done) | (simp; omega) | (simp at *; omega)) _)
        · by_cases h4 : f = 4
          · subst h4
            have HP : Hid (placeAcross a b c false false 4 g cross base = wrap64 (b + floorDiv (wrap64 (wrap64 (wrap64 (cross - a) - b) - c)) 2)) := hid' (by simp [placeAcross, hs, acrossFree])
            go_enter Try.func36, Try.ntmps36
            go_wp2_with fail
            refine (iSideOk_c _ _ _ _ _ _ _ _).mono ?_; rintro r w1 ⟨rfl, hb1⟩
            obtain ⟨hc1, -, hz1⟩ := hb1.open_
            have hl1 : w.heap.size < w1.heap.size := by (try simp at hz1); omega
            go_wp2_with fail
            go_quiet ((go_at_call 69; exact quietL (iFloorDiv_c _ _ _ hEb)))
            go_wp2_with fail
            go_ret
            refine ⟨by rw [HP.out]; rfl, ?_⟩
            repeat (first | exact Bel.refl _ | assumption | refine Bel.alloc ?_ _ | refine Bel.drew ?_ | refine Bel.drewN ?_ _ | refine Bel.trans ?_ (by assumption) | refine Bel.setCell ?_ (by first | (simp; done) | (simp; omega) | (simp at *; omega)) _)
          · by_cases h5 : f = 5
            · subst h5
              have HP : Hid (placeAcross a b c false false 5 g cross base = wrap64 (base - g)) := hid' (by simp [placeAcross, hs])
              go_enter Try.func36, Try.ntmps36
              go_wp2_with fail
              refine (iSideOk_c _ _ _ _ _ _ _ _).mono ?_; rintro r w1 ⟨rfl, hb1⟩
              obtain ⟨hc1, -, hz1⟩ := hb1.open_
              have hl1 : w.heap.size < w1.heap.size := by (try simp at hz1); omega
              go_wp2_with fail
              go_ret
              refine ⟨by rw [HP.out]; rfl, ?_⟩
              repeat (first | exact Bel.refl _ | assumption | refine Bel.alloc ?_ _ | refine Bel.drew ?_ | refine Bel.drewN ?_ _ | refine Bel.trans ?_ (by assumption) | refine Bel.setCell ?_ (by first | (simp; done) | (simp; omega) | (simp at *; omega)) _)
            · have HP : Hid (placeAcross a b c false false f g cross base = b) := hid' (by simp [placeAcross, hs, h3, h4, h5])
              have e3 : (f == 3) = false := by simp [h3]
              have e4 : (f == 4) = false := by simp [h4]
              have e5 : (f == 5) = false := by simp [h5]
              clear h3 h4 h5
              go_enter Try.func36, Try.ntmps36
              go_wp2_with fail
              refine (iSideOk_c _ _ _ _ _ _ _ _).mono ?_; rintro r w1 ⟨rfl, hb1⟩
              obtain ⟨hc1, -, hz1⟩ := hb1.open_
              have hl1 : w.heap.size < w1.heap.size := by (try simp at hz1); omega
              go_wp2_with fail
              go_ret
              refine ⟨by rw [HP.out]; rfl, ?_⟩
              repeat (first | exact Bel.refl _ | assumption | refine Bel.alloc ?_ _ | refine Bel.drew ?_ | refine Bel.drewN ?_ _ | refine Bel.trans ?_ (by assumption) | refine Bel.setCell ?_ (by first | (simp; done) | (simp; omega) | (simp at *; omega)) _)
    | true =>
      by_cases h0 : wrap64 (wrap64 (wrap64 (cross - a) - b) - c) ≤ 0
      · have HP : Hid (placeAcross a b c true e f g cross base = b) := hid' (by simp [placeAcross, hs, acrossFree, h0])
        cases e
        all_goals
          go_enter Try.func36, Try.ntmps36
          go_wp2_with fail
          refine (iSideOk_c _ _ _ _ _ _ _ _).mono ?_; rintro r w1 ⟨rfl, hb1⟩
          obtain ⟨hc1, -, hz1⟩ := hb1.open_
          have hl1 : w.heap.size < w1.heap.size := by (try simp at hz1); omega
          go_wp2_with fail
          go_ret
          refine ⟨by rw [HP.out]; rfl, ?_⟩
          repeat (first | exact Bel.refl _ | assumption | refine Bel.alloc ?_ _ | refine Bel.drew ?_ | refine Bel.drewN ?_ _ | refine Bel.trans ?_ (by assumption) | refine Bel.setCell ?_ (by first | (simp; done) | (simp; omega) | (simp at *; omega)) _)
      · have hp : 0 < wrap64 (wrap64 (wrap64 (cross - a) - b) - c) := by omega
        cases e with
        | false =>
          have HP : Hid (placeAcross a b c true false f g cross base = wrap64 (b + wrap64 (wrap64 (wrap64 (cross - a) - b) - c))) := hid' (by simp [placeAcross, hs, acrossFree, h0])
          clear h0
          go_enter Try.func36, Try.ntmps36
          go_wp2_with fail
          refine (iSideOk_c _ _ _ _ _ _ _ _).mono ?_; rintro r w1 ⟨rfl, hb1⟩
          obtain ⟨hc1, -, hz1⟩ := hb1.open_
          have hl1 : w.heap.size < w1.heap.size := by (try simp at hz1); omega
          go_wp2_with fail
          go_ret
          refine ⟨by rw [HP.out]; rfl, ?_⟩
          repeat (first | exact Bel.refl _ | assumption | refine Bel.alloc ?_ _ | refine Bel.drew ?_ | refine Bel.drewN ?_ _ | refine Bel.trans ?_ (by assumption) | refine Bel.setCell ?_ (by first | (simp; done) | (simp; omega) | (simp at *; omega)) _)
        | true =>
          have HP : Hid (placeAcross a b c true true f g cross base = wrap64 (b + floorDiv (wrap64 (wrap64 (wrap64 (cross - a) - b) - c)) 2)) := hid' (by simp [placeAcross, hs, acrossFree, h0])
          clear h0
          go_enter Try.func36, Try.ntmps36
          go_wp2_with fail
          refine (iSideOk_c _ _ _ _ _ _ _ _).mono ?_; rintro r w1 ⟨rfl, hb1⟩
          obtain ⟨hc1, -, hz1⟩ := hb1.open_
          have hl1 : w.heap.size < w1.heap.size := by (try simp at hz1); omega
          go_wp2_with fail
          go_quiet ((go_at_call 69; exact quietL (iFloorDiv_c _ _ _ hEb)))
          go_wp2_with fail
          go_ret
          refine ⟨by rw [HP.out]; rfl, ?_⟩
          repeat (first | exact Bel.refl _ | assumption | refine Bel.alloc ?_ _ | refine Bel.drew ?_ | refine Bel.drewN ?_ _ | refine Bel.trans ?_ (by assumption) | refine Bel.setCell ?_ (by first | (simp; done) | (simp; omega) | (simp at *; omega)) _)
set_option maxRecDepth 100000 in
set_option maxHeartbeats 4000000 in
theorem sPlaceAcross_c (a b c : Int) (d e : Bool) (f g cross base : Int) (w : World) :
    Calls Try.prog 40 #[sideV a b c d e f g, .int .i64 cross, .int .i64 base] w fun r w' => r = .returned (.int .i64 (placeAcross a b c d e f g cross base)) ∧ Bel w w' := by
  have hEb := wrap64_bd (wrap64 (wrap64 (cross - a) - b) - c)
  cases hs : sideOk a b c f g with
  | false =>
    have HP : Hid (placeAcross a b c d e f g cross base = 0) := hid' (by simp [placeAcross, hs])
    go_enter Try.func40, Try.ntmps40
    go_wp2_with fail
    refine (sSideOk_c _ _ _ _ _ _ _ _).mono ?_; rintro r w1 ⟨rfl, hb1⟩
    obtain ⟨hc1, -, hz1⟩ := hb1.open_
    have hl1 : w.heap.size < w1.heap.size := by (try simp at hz1); omega
    go_wp2_with fail
    go_ret
    refine ⟨by rw [HP.out]; rfl, ?_⟩
    repeat (first | exact Bel.refl _ | assumption | refine Bel.alloc ?_ _ | refine Bel.drew ?_ | refine Bel.drewN ?_ _ | refine Bel.trans ?_ (by assumption) | refine Bel.setCell ?_ (by first | (simp; done) | (simp; omega) | (simp at *; omega)) _)
  | true =>
    cases d with
    | false =>
      cases e with
      | true =>
        have HP : Hid (placeAcross a b c false true f g cross base = b) := hid' (by simp [placeAcross, hs])
        go_enter Try.func40, Try.ntmps40
        go_wp2_with fail
        refine (sSideOk_c _ _ _ _ _ _ _ _).mono ?_; rintro r w1 ⟨rfl, hb1⟩
        obtain ⟨hc1, -, hz1⟩ := hb1.open_
        have hl1 : w.heap.size < w1.heap.size := by (try simp at hz1); omega
        go_wp2_with fail
        refine (l17Auto_c _ _ _ _ _ _ _ _).mono ?_; rintro r w2 ⟨rfl, hb2⟩
        obtain ⟨hc2, -, hz2⟩ := hb2.open_
        go_wp2_with fail
        by_cases h0 : wrap64 (wrap64 (wrap64 (cross - a) - b) - c) ≤ 0
        all_goals
          go_wp2_with fail
          go_ret
          refine ⟨by rw [HP.out]; rfl, ?_⟩
          repeat (first | exact Bel.refl _ | assumption | refine Bel.alloc ?_ _ | refine Bel.drew ?_ | refine Bel.drewN ?_ _ | refine Bel.trans ?_ (by assumption) | refine Bel.setCell ?_ (by first | (simp; done) | (simp; omega) | (simp at *; omega)) _)
      | false =>
        by_cases h3 : f = 3
        · subst h3
          have HP : Hid (placeAcross a b c false false 3 g cross base = wrap64 (b + wrap64 (wrap64 (wrap64 (cross - a) - b) - c))) := hid' (by simp [placeAcross, hs, acrossFree])
          go_enter Try.func40, Try.ntmps40
          go_wp2_with fail
          refine (sSideOk_c _ _ _ _ _ _ _ _).mono ?_; rintro r w1 ⟨rfl, hb1⟩
          obtain ⟨hc1, -, hz1⟩ := hb1.open_
          have hl1 : w.heap.size < w1.heap.size := by (try simp at hz1); omega
          go_wp2_with fail
          refine (l17Auto_c _ _ _ _ _ _ _ _).mono ?_; rintro r w2 ⟨rfl, hb2⟩
          obtain ⟨hc2, -, hz2⟩ := hb2.open_
          go_wp2_with fail
          go_ret
          refine ⟨by rw [HP.out]; rfl, ?_⟩
          repeat (first | exact Bel.refl _ | assumption | refine Bel.alloc ?_ _ | refine Bel.drew ?_ | refine Bel.drewN ?_ _ | refine Bel.trans ?_ (by assumption) | refine Bel.setCell ?_ (by first | (simp; done) | (simp; omega) | (simp at *; omega)) _)
        · by_cases h4 : f = 4
          · subst h4
            have HP : Hid (placeAcross a b c false false 4 g cross base = wrap64 (b + floorDiv (wrap64 (wrap64 (wrap64 (cross - a) - b) - c)) 2)) := hid' (by simp [placeAcross, hs, acrossFree])
            go_enter Try.func40, Try.ntmps40
            go_wp2_with fail
            refine (sSideOk_c _ _ _ _ _ _ _ _).mono ?_; rintro r w1 ⟨rfl, hb1⟩
            obtain ⟨hc1, -, hz1⟩ := hb1.open_
            have hl1 : w.heap.size < w1.heap.size := by (try simp at hz1); omega
            go_wp2_with fail
            refine (l17Auto_c _ _ _ _ _ _ _ _).mono ?_; rintro r w2 ⟨rfl, hb2⟩
            obtain ⟨hc2, -, hz2⟩ := hb2.open_
            go_wp2_with fail
            go_quiet ((go_at_call 74; exact quietL (sFloorDiv_c _ _ _ hEb)))
            go_wp2_with fail
            go_ret
            refine ⟨by rw [HP.out]; rfl, ?_⟩
            repeat (first | exact Bel.refl _ | assumption | refine Bel.alloc ?_ _ | refine Bel.drew ?_ | refine Bel.drewN ?_ _ | refine Bel.trans ?_ (by assumption) | refine Bel.setCell ?_ (by first | (simp; done) | (simp; omega) | (simp at *; omega)) _)
          · by_cases h5 : f = 5
            · subst h5
              have HP : Hid (placeAcross a b c false false 5 g cross base = wrap64 (base - g)) := hid' (by simp [placeAcross, hs])
              go_enter Try.func40, Try.ntmps40
              go_wp2_with fail
              refine (sSideOk_c _ _ _ _ _ _ _ _).mono ?_; rintro r w1 ⟨rfl, hb1⟩
              obtain ⟨hc1, -, hz1⟩ := hb1.open_
              have hl1 : w.heap.size < w1.heap.size := by (try simp at hz1); omega
              go_wp2_with fail
              refine (l17Auto_c _ _ _ _ _ _ _ _).mono ?_; rintro r w2 ⟨rfl, hb2⟩
              obtain ⟨hc2, -, hz2⟩ := hb2.open_
              go_wp2_with fail
              go_ret
              refine ⟨by rw [HP.out]; rfl, ?_⟩
              repeat (first | exact Bel.refl _ | assumption | refine Bel.alloc ?_ _ | refine Bel.drew ?_ | refine Bel.drewN ?_ _ | refine Bel.trans ?_ (by assumption) | refine Bel.setCell ?_ (by first | (simp; done) | (simp; omega) | (simp at *; omega)) _)
            · have HP : Hid (placeAcross a b c false false f g cross base = b) := hid' (by simp [placeAcross, hs, h3, h4, h5])
              have e3 : (f == 3) = false := by simp [h3]
              have e4 : (f == 4) = false := by simp [h4]
              have e5 : (f == 5) = false := by simp [h5]
              clear h3 h4 h5
              go_enter Try.func40, Try.ntmps40
              go_wp2_with fail
              refine (sSideOk_c _ _ _ _ _ _ _ _).mono ?_; rintro r w1 ⟨rfl, hb1⟩
              obtain ⟨hc1, -, hz1⟩ := hb1.open_
              have hl1 : w.heap.size < w1.heap.size := by (try simp at hz1); omega
              go_wp2_with fail
              refine (l17Auto_c _ _ _ _ _ _ _ _).mono ?_; rintro r w2 ⟨rfl, hb2⟩
              obtain ⟨hc2, -, hz2⟩ := hb2.open_
              go_wp2_with fail
              go_ret
              refine ⟨by rw [HP.out]; rfl, ?_⟩
              repeat (first | exact Bel.refl _ | assumption | refine Bel.alloc ?_ _ | refine Bel.drew ?_ | refine Bel.drewN ?_ _ | refine Bel.trans ?_ (by assumption) | refine Bel.setCell ?_ (by first | (simp; done) | (simp; omega) | (simp at *; omega)) _)
    | true =>
      by_cases h0 : wrap64 (wrap64 (wrap64 (cross - a) - b) - c) ≤ 0
      · have HP : Hid (placeAcross a b c true e f g cross base = b) := hid' (by simp [placeAcross, hs, acrossFree, h0])
        cases e
        all_goals
          go_enter Try.func40, Try.ntmps40
          go_wp2_with fail
          refine (sSideOk_c _ _ _ _ _ _ _ _).mono ?_; rintro r w1 ⟨rfl, hb1⟩
          obtain ⟨hc1, -, hz1⟩ := hb1.open_
          have hl1 : w.heap.size < w1.heap.size := by (try simp at hz1); omega
          go_wp2_with fail
          refine (l17Auto_c _ _ _ _ _ _ _ _).mono ?_; rintro r w2 ⟨rfl, hb2⟩
          obtain ⟨hc2, -, hz2⟩ := hb2.open_
          go_wp2_with fail
          go_ret
          refine ⟨by rw [HP.out]; rfl, ?_⟩
          repeat (first | exact Bel.refl _ | assumption | refine Bel.alloc ?_ _ | refine Bel.drew ?_ | refine Bel.drewN ?_ _ | refine Bel.trans ?_ (by assumption) | refine Bel.setCell ?_ (by first | (simp; done) | (simp; omega) | (simp at *; omega)) _)
      · have hp : 0 < wrap64 (wrap64 (wrap64 (cross - a) - b) - c) := by omega
        cases e with
        | false =>
          have HP : Hid (placeAcross a b c true false f g cross base = wrap64 (b + wrap64 (wrap64 (wrap64 (cross - a) - b) - c))) := hid' (by simp [placeAcross, hs, acrossFree, h0])
          clear h0
          go_enter Try.func40, Try.ntmps40
          go_wp2_with fail
          refine (sSideOk_c _ _ _ _ _ _ _ _).mono ?_; rintro r w1 ⟨rfl, hb1⟩
          obtain ⟨hc1, -, hz1⟩ := hb1.open_
          have hl1 : w.heap.size < w1.heap.size := by (try simp at hz1); omega
          go_wp2_with fail
          refine (l17Auto_c _ _ _ _ _ _ _ _).mono ?_; rintro r w2 ⟨rfl, hb2⟩
          obtain ⟨hc2, -, hz2⟩ := hb2.open_
          go_wp2_with fail
          go_ret
          refine ⟨by rw [HP.out]; rfl, ?_⟩
          repeat (first | exact Bel.refl _ | assumption | refine Bel.alloc ?_ _ | refine Bel.drew ?_ | refine Bel.drewN ?_ _ | refine Bel.trans ?_ (by assumption) | refine Bel.setCell ?_ (by first | (simp; done) | (simp; omega) | (simp at *; omega)) _)
        | true =>
          have HP : Hid (placeAcross a b c true true f g cross base = wrap64 (b + floorDiv (wrap64 (wrap64 (wrap64 (cross - a) - b) - c)) 2)) := hid' (by simp [placeAcross, hs, acrossFree, h0])
          clear h0
          go_enter Try.func40, Try.ntmps40
          go_wp2_with fail
          refine (sSideOk_c _ _ _ _ _ _ _ _).mono ?_; rintro r w1 ⟨rfl, hb1⟩
          obtain ⟨hc1, -, hz1⟩ := hb1.open_
          have hl1 : w.heap.size < w1.heap.size := by (try simp at hz1); omega
          go_wp2_with fail
          refine (l17Auto_c _ _ _ _ _ _ _ _).mono ?_; rintro r w2 ⟨rfl, hb2⟩
          obtain ⟨hc2, -, hz2⟩ := hb2.open_
          go_wp2_with fail
          go_quiet ((go_at_call 74; exact quietL (sFloorDiv_c _ _ _ hEb)))
          go_wp2_with fail
          go_ret
          refine ⟨by rw [HP.out]; rfl, ?_⟩
          repeat (first | exact Bel.refl _ | assumption | refine Bel.alloc ?_ _ | refine Bel.drew ?_ | refine Bel.drewN ?_ _ | refine Bel.trans ?_ (by assumption) | refine Bel.setCell ?_ (by first | (simp; done) | (simp; omega) | (simp at *; omega)) _)
end Go.Proofs.Ytmipjhnjlpmidaa
