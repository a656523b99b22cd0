/- LineItems and LinesOf, both texts. -/
import Derived.Test.YtmipjhnjlpmidaaItemFns
import Derived.Test.YtmipjhnjlpmidaaApp
import Derived.Test.YtmipjhnjlpmidaaPlace
namespace Go.Proofs.Ytmipjhnjlpmidaa
open Go.RowKit Go.ChangeShapes Go.WideShapes
set_option linter.unusedVariables false
set_option linter.unusedSimpArgs false

theorem Try.info_ints : (Try.prog.info? 29).map (fun i => (i.zero, i.size, i.bytes)) = some (some (.slice none 0 0), 1, 24) := by kernel_rfl

/-! ### LineItems -/
def lineItems (L : List Rec) (line : List Int) : List Rec := line.filterMap fun i => if inB i 0 ((L.length : Int) - 1) = true then some (rec_ L i.toNat) else none
theorem take_at {zs : List Int} {k : Nat} (h : k < zs.length) : zs.take (k + 1) = zs.take k ++ [at_ zs k] := by
  rw [List.take_add_one, at_eq h]; rfl
theorem lineItems_hit {L : List Rec} {line : List Int} {k p : Nat} (h : k < line.length) (hp : at_ line k = (p : Int)) (hb : inB (at_ line k) 0 ((L.length : Int) - 1) = true) : lineItems L (line.take (k + 1)) = lineItems L (line.take k) ++ [rec_ L p] := by
  rw [take_at h, lineItems, List.filterMap_append]
  simp only [List.filterMap_cons, List.filterMap_nil]
  rw [if_pos hb, hp]
  rfl
theorem lineItems_miss {L : List Rec} {line : List Int} {k : Nat} (h : k < line.length) (hb : inB (at_ line k) 0 ((L.length : Int) - 1) = false) : lineItems L (line.take (k + 1)) = lineItems L (line.take k) := by
  rw [take_at h, lineItems, List.filterMap_append]
  simp only [List.filterMap_cons, List.filterMap_nil]
  rw [if_neg (by rw [hb]; decide), List.append_nil]
  rfl
theorem lineItems_le (L : List Rec) (line : List Int) : (lineItems L line).length ≤ line.length := List.length_filterMap_le _ _
set_option maxRecDepth 100000 in
set_option maxHeartbeats 2000000 in
theorem iLineItems_c (A : Option Addr) (c : Nat) (L : List Rec) (B : Option Addr) (d : Nat) (line : List Int) (w : World) (h : Recs w A k_item L) (hz : Ints w B line) (hn : L.length ≤ 1048576) (hm : line.length ≤ 1048576) :
    Calls Try.prog 63 #[.slice A L.length c, .slice B line.length d] w fun r w' => ∃ v, r = .returned v ∧ w'.ownsRow w.heap.size 48 9 v (lineItems L line).length (RV k_item (lineItems L line)) ∧ Bel w w' := by
  have ho0 : (w).ownsRow w.heap.size 48 9 (.slice none 0 0) 0 (RV k_item []) := ⟨rfl, .inl ⟨rfl, rfl⟩⟩
  have hb0 : Bel w (w) := by
    repeat (first | exact Bel.refl _ | assumption | refine Bel.alloc ?_ _ | refine Bel.drew ?_ | refine Bel.drewN ?_ _ | refine Bel.trans ?_ (by assumption) | refine Bel.setCell ?_ (by first | (simp; done) | (simp; omega) | (simp at *; omega)) _)
  go_enter Try.func63, Try.ntmps63
  go_wp2_with fail
  go_loopw [5, 10] (fun v i wr => ∃ (k : Nat), k ≤ line.length ∧ i = .int .i64 k ∧ wr.ownsRow w.heap.size 48 9 v (lineItems L (line.take k)).length (RV k_item (lineItems L (line.take k))) ∧ Bel w wr) (fun _ i _ => line.length - (intOf i).toNat)
  case atStart => exact ⟨0, Nat.zero_le _, by go_num, ho0, hb0⟩
  case round =>
    obtain ⟨k, hk, rfl, ho, hb⟩ := hrel
    by_cases hlt : k < line.length
    · obtain ⟨b, o, rfl, hbl, hc⟩ := hz k hlt
      have hcA : wr.cell? ⟨b, o + k, none⟩ = some (.int .i64 (at_ line k)) := (hb.cell _ _ hbl).trans (hc k hlt)
      clear hc
      cases hin : inB (at_ line k) 0 ((L.length : Int) - 1)
      · have HS := Lib.hid (lineItems_miss hlt hin)
        go_wp2_with ((go_at_call 68; refine (in_c _ _ _ _).mono ?_; rintro e w' ⟨rfl, rfl⟩))
        go_roundw
        case rel => exact ⟨k + 1, by omega, by go_num, by rw [HS.out]; exact ho, hb⟩
        case measure => simp [intOf]; omega
      · obtain ⟨p, hp⟩ : ∃ p : Nat, at_ line k = (p : Int) := ⟨(at_ line k).toNat, by have := (inB_iff.1 hin).1; omega⟩
        have HS := Lib.hid (lineItems_hit (L := L) hlt hp hin)
        rw [hp] at hcA hin
        have hpl : p < L.length := by have := (inB_iff.1 hin).2; omega
        obtain ⟨b2, o2, rfl, hbl2, hc⟩ := h p hpl
        obtain ⟨x0, x1, x2, x3, x4, x5, x6, x7, x8⟩ := item_cells hc hpl
        have d0 := (hb.cell _ _ hbl2).trans x0
        have d1 := (hb.cell _ _ hbl2).trans x1
        have d2 := (hb.cell _ _ hbl2).trans x2
        have d3 := (hb.cell _ _ hbl2).trans x3
        have d4 := (hb.cell _ _ hbl2).trans x4
        have d5 := (hb.cell _ _ hbl2).trans x5
        have d6 := (hb.cell _ _ hbl2).trans x6
        have d7 := (hb.cell _ _ hbl2).trans x7
        have d8 := (hb.cell _ _ hbl2).trans x8
        clear hc x0 x1 x2 x3 x4 x5 x6 x7 x8
        have hle : (lineItems L (line.take k)).length ≤ 1048576 := by have := lineItems_le L (line.take k); have := List.length_take_le k line; omega
        clear hp
        go_wp2_with (first | ((go_at_call 68; refine (in_c _ _ _ _).mono ?_; rintro e w' ⟨rfl, rfl⟩)) | (at_builtin; refine appG rfl (.tmp 19) (.tmp 24) 25 48 rfl (itemV 0 0 0 0 0 0 0 false false) 9 64 Try.underlying25 Try.info_item rfl (by decide) (by decide) w.heap.size _ _ _ rfl (ho.alloc _) wr.heap.size rfl (rcells k_item (rec_ L p)) rfl (new_cells _ (rcells k_item (rec_ L p)) _) (rcells_one _ _) (by omega) (hb.alloc _).sz ?_; intro v' w' ho' hg' hl'))
        go_roundw
        case rel =>
          refine ⟨k + 1, by omega, by go_num, ?_, (hb.alloc _).own (Nat.le_refl _) (ho.alloc _) hg'⟩
          rw [HS.out, ← RV_snoc, List.length_append]
          exact ho'
        case measure => simp [intOf]; omega
    · obtain rfl : k = line.length := by omega
      go_wp2_with fail
      go_ret
      rw [List.take_length] at ho
      exact ⟨_, rfl, ho, hb⟩
set_option maxRecDepth 100000 in
set_option maxHeartbeats 2000000 in
theorem sLineItems_c (A : Option Addr) (c : Nat) (L : List Rec) (B : Option Addr) (d : Nat) (line : List Int) (w : World) (h : Recs w A k_item L) (hz : Ints w B line) (hn : L.length ≤ 1048576) (hm : line.length ≤ 1048576) :
    Calls Try.prog 61 #[.slice A L.length c, .slice B line.length d] w fun r w' => ∃ v, r = .returned v ∧ w'.ownsRow w.heap.size 48 9 v (lineItems L line).length (RV k_item (lineItems L line)) ∧ Bel w w' := by
  have ho0 : (w.alloc (.cells #[] 48)).ownsRow w.heap.size 48 9 (.slice (some ⟨w.heap.size, 0, none⟩) 0 0) 0 (RV k_item []) := World.ownsRow_lit w #[] 0 (Nat.le_refl _) (by unfold maxLen; omega) rfl
  have hb0 : Bel w (w.alloc (.cells #[] 48)) := by
    repeat (first | exact Bel.refl _ | assumption | refine Bel.alloc ?_ _ | refine Bel.drew ?_ | refine Bel.drewN ?_ _ | refine Bel.trans ?_ (by assumption) | refine Bel.setCell ?_ (by first | (simp; done) | (simp; omega) | (simp at *; omega)) _)
  go_enter Try.func61, Try.ntmps61
  go_wp2_with fail
  go_loopw [5, 6] (fun v i wr => ∃ (k : Nat), k ≤ line.length ∧ i = .int .i64 k ∧ wr.ownsRow w.heap.size 48 9 v (lineItems L (line.take k)).length (RV k_item (lineItems L (line.take k))) ∧ Bel w wr) (fun _ i _ => line.length - (intOf i).toNat)
  case atStart => exact ⟨0, Nat.zero_le _, by go_num, ho0, hb0⟩
  case round =>
    obtain ⟨k, hk, rfl, ho, hb⟩ := hrel
    by_cases hlt : k < line.length
    · obtain ⟨b, o, rfl, hbl, hc⟩ := hz k hlt
      have hcA : wr.cell? ⟨b, o + k, none⟩ = some (.int .i64 (at_ line k)) := (hb.cell _ _ hbl).trans (hc k hlt)
      clear hc
      cases hin : inB (at_ line k) 0 ((L.length : Int) - 1)
      · have HS := Lib.hid (lineItems_miss hlt hin)
        go_wp2_with ((go_at_call 73; refine (l01In_c _ _ _ _).mono ?_; rintro e w' ⟨rfl, rfl⟩))
        go_roundw
        case rel => exact ⟨k + 1, by omega, by go_num, by rw [HS.out]; exact ho, hb⟩
        case measure => simp [intOf]; omega
      · obtain ⟨p, hp⟩ : ∃ p : Nat, at_ line k = (p : Int) := ⟨(at_ line k).toNat, by have := (inB_iff.1 hin).1; omega⟩
        have HS := Lib.hid (lineItems_hit (L := L) hlt hp hin)
        rw [hp] at hcA hin
        have hpl : p < L.length := by have := (inB_iff.1 hin).2; omega
        obtain ⟨b2, o2, rfl, hbl2, hc⟩ := h p hpl
        obtain ⟨x0, x1, x2, x3, x4, x5, x6, x7, x8⟩ := item_cells hc hpl
        have d0 := (hb.cell _ _ hbl2).trans x0
        have d1 := (hb.cell _ _ hbl2).trans x1
        have d2 := (hb.cell _ _ hbl2).trans x2
        have d3 := (hb.cell _ _ hbl2).trans x3
        have d4 := (hb.cell _ _ hbl2).trans x4
        have d5 := (hb.cell _ _ hbl2).trans x5
        have d6 := (hb.cell _ _ hbl2).trans x6
        have d7 := (hb.cell _ _ hbl2).trans x7
        have d8 := (hb.cell _ _ hbl2).trans x8
        clear hc x0 x1 x2 x3 x4 x5 x6 x7 x8
        have hle : (lineItems L (line.take k)).length ≤ 1048576 := by have := lineItems_le L (line.take k); have := List.length_take_le k line; omega
        clear hp
        go_wp2_with (first | ((go_at_call 73; refine (l01In_c _ _ _ _).mono ?_; rintro e w' ⟨rfl, rfl⟩)) | (at_builtin; refine appG rfl (.tmp 22) (.tmp 30) 25 48 rfl (itemV 0 0 0 0 0 0 0 false false) 9 64 Try.underlying25 Try.info_item rfl (by decide) (by decide) w.heap.size _ _ _ rfl (ho.alloc _) wr.heap.size rfl (rcells k_item (rec_ L p)) rfl (new_cells _ (rcells k_item (rec_ L p)) _) (rcells_one _ _) (by omega) (hb.alloc _).sz ?_; intro v' w' ho' hg' hl'))
        go_roundw
        case rel =>
          refine ⟨k + 1, by omega, by go_num, ?_, (hb.alloc _).own (Nat.le_refl _) (ho.alloc _) hg'⟩
          rw [HS.out, ← RV_snoc, List.length_append]
          exact ho'
        case measure => simp [intOf]; omega
    · obtain rfl : k = line.length := by omega
      go_wp2_with fail
      go_ret
      rw [List.take_length] at ho
      exact ⟨_, rfl, ho, hb⟩

/-! ### the size of a line -/
def outerL (L : List Rec) (line : List Int) (gap : Int) : Int := outerOf (lineItems L line) (hyps (lineItems L line)) gap
set_option maxRecDepth 100000 in
set_option maxHeartbeats 2000000 in
theorem l14Outer_c (A : Option Addr) (c : Nat) (L : List Rec) (B : Option Addr) (d : Nat) (line : List Int) (gap : Int) (w : World) (h : Recs w A k_item L) (hz : Ints w B line) (hn : L.length ≤ 1048576) (hm : line.length ≤ 1048576) :
    Calls Try.prog 97 #[.slice A L.length c, .slice B line.length d, .int .i64 gap] w fun r w' => r = .returned (.int .i64 (outerL L line gap)) ∧ Bel w w' := by
  have hle := lineItems_le L line
  go_enter Try.func97, Try.ntmps97
  go_wp2_with fail
  refine (sLineItems_c _ _ _ _ _ _ _ h hz hn hm).mono ?_; rintro e w1 ⟨v, rfl, ho, hb1⟩
  obtain ⟨A1, c1, rfl, -, -, h1⟩ := own_openR rfl ho
  go_wp2_with fail
  refine (shyps_c _ _ _ _ h1 (by omega)).mono ?_; rintro e w2 ⟨v2, rfl, ho2, hb2⟩
  obtain ⟨A2, c2, rfl, -, -, -, h2⟩ := own_open ho2
  go_wp2_with fail
  refine (sOuterOf_c _ _ _ _ _ _ _ _ (h1.keep hb2) h2 (by omega) (by rw [hyps_length]; omega)).mono ?_; rintro e w3 ⟨rfl, hb3⟩
  go_wp2_with fail
  go_ret
  exact ⟨rfl, (hb1.trans hb2).trans hb3⟩

/-! ### LinesOf -/
def linesTo (L : List Rec) (gap room : Int) (one : Bool) : Nat → List (List Int)
  | 0 => []
  | k + 1 =>
    if (linesTo L gap room one k).length = 0 then [[(k : Int)]]
    else if (one || decide (outerL L ((linesTo L gap room one k).getD ((linesTo L gap room one k).length - 1) [] ++ [(k : Int)]) gap ≤ room)) = true
      then (linesTo L gap room one k).set ((linesTo L gap room one k).length - 1) ((linesTo L gap room one k).getD ((linesTo L gap room one k).length - 1) [] ++ [(k : Int)])
      else linesTo L gap room one k ++ [[(k : Int)]]
def oneOf (L : List Rec) (room : Int) (wraps : Bool) : Bool := !wraps || decide (room < 0) || !itemsOk L
def linesOf (L : List Rec) (gap room : Int) (wraps : Bool) : List (List Int) := linesTo L gap room (oneOf L room wraps) L.length
theorem linesTo_first {L : List Rec} {gap room : Int} {one : Bool} {k : Nat} (h : (linesTo L gap room one k).length = 0) : linesTo L gap room one (k + 1) = linesTo L gap room one k ++ [[(k : Int)]] := by
  rw [linesTo, if_pos h, List.eq_nil_of_length_eq_zero h]; rfl
theorem linesTo_next {L : List Rec} {gap room : Int} {one : Bool} {k : Nat} (h : 0 < (linesTo L gap room one k).length)
    (hq : (one || decide (outerL L ((linesTo L gap room one k).getD ((linesTo L gap room one k).length - 1) [] ++ [(k : Int)]) gap ≤ room)) = false) : linesTo L gap room one (k + 1) = linesTo L gap room one k ++ [[(k : Int)]] := by
  rw [linesTo, if_neg (by omega), if_neg (by rw [hq]; decide)]
theorem linesTo_same {L : List Rec} {gap room : Int} {one : Bool} {k : Nat} (h : 0 < (linesTo L gap room one k).length)
    (hq : (one || decide (outerL L ((linesTo L gap room one k).getD ((linesTo L gap room one k).length - 1) [] ++ [(k : Int)]) gap ≤ room)) = true) :
    linesTo L gap room one (k + 1) = (linesTo L gap room one k).set ((linesTo L gap room one k).length - 1) ((linesTo L gap room one k).getD ((linesTo L gap room one k).length - 1) [] ++ [(k : Int)]) := by
  rw [linesTo, if_neg (by omega), if_pos hq]
theorem linesTo_bd (L : List Rec) (gap room : Int) (one : Bool) : ∀ k : Nat, (linesTo L gap room one k).length ≤ k ∧ ∀ l ∈ linesTo L gap room one k, l.length ≤ k := by
  intro k
  induction k with
  | zero => simp [linesTo]
  | succ k ih =>
    by_cases h0 : (linesTo L gap room one k).length = 0
    · rw [linesTo_first h0, List.eq_nil_of_length_eq_zero h0]; simp
    · have hlast : ((linesTo L gap room one k).getD ((linesTo L gap room one k).length - 1) []).length ≤ k := ih.2 _ (List.mem_of_getElem? (getD_eq (by omega)))
      by_cases hq : (one || decide (outerL L ((linesTo L gap room one k).getD ((linesTo L gap room one k).length - 1) [] ++ [(k : Int)]) gap ≤ room)) = true
      · rw [linesTo_same (by omega) hq]
        refine ⟨by simp; omega, fun l hl => ?_⟩
        rcases List.mem_or_eq_of_mem_set hl with hl | rfl
        · have := ih.2 l hl; omega
        · simp only [List.length_append, List.length_singleton]; omega
      · rw [linesTo_next (by omega) (by simpa using hq)]
        refine ⟨by simp; omega, fun l hl => ?_⟩
        rcases List.mem_append.1 hl with hl | hl
        · have := ih.2 l hl; omega
        · simp at hl; subst hl; simp

theorem next_set {L : List Rec} {gap room : Int} {one : Bool} {k : Nat} {P : List (List Int)} {l0 l1 : List Int} (hP : linesTo L gap room one k = P) (h : 0 < P.length) (h0 : P.getD (P.length - 1) [] = l0) (h1 : l0 ++ [(k : Int)] = l1)
    (hq : (one || decide (outerL L l1 gap ≤ room)) = true) : linesTo L gap room one (k + 1) = P.set (P.length - 1) l1 := by
  subst h1 h0 hP; exact linesTo_same h hq
theorem next_new {L : List Rec} {gap room : Int} {one : Bool} {k : Nat} {P : List (List Int)} {l0 l1 : List Int} (hP : linesTo L gap room one k = P) (h : 0 < P.length) (h0 : P.getD (P.length - 1) [] = l0) (h1 : l0 ++ [(k : Int)] = l1)
    (hq : (one || decide (outerL L l1 gap ≤ room)) = false) : linesTo L gap room one (k + 1) = P ++ [[(k : Int)]] := by
  subst h1 h0 hP; exact linesTo_next h hq
theorem next_first {L : List Rec} {gap room : Int} {one : Bool} {k : Nat} {P : List (List Int)} (hP : linesTo L gap room one k = P) (h : P.length = 0) : linesTo L gap room one (k + 1) = P ++ [[(k : Int)]] := by
  subst hP; exact linesTo_first h

end Go.Proofs.Ytmipjhnjlpmidaa
