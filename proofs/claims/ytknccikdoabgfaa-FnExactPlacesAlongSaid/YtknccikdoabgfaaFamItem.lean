/- Slices of items, and slices of slices of ints, as families. -/
import Derived.Test.YtknccikdoabgfaaFamT
import Derived.Test.YtknccikdoabgfaaMarkItem
import Derived.Test.YtknccikdoabgfaaIntSS
namespace Go.Proofs.Ytknccikdoabgfaa
open Go.RowKit Go.ChangeShapes Go.WideShapes
set_option linter.unusedVariables false
set_option linter.unusedSimpArgs false

theorem own_recs {w : World} {base : Nat} {e : TypeId} {A : Option Addr} {n c : Nat} {ks : List Bool} {L : List Rec} (hn : n = L.length) (h : w.ownsRow base e ks.length (.slice A n c) n (RV ks L)) : Recs w A ks L := by
  obtain ⟨A', c', hv, _, _, hI⟩ := own_openR hn h
  injection hv with h1 _ _
  subst h1
  exact hI
def itemF (v : Value) (n : Nat) (L : List Rec) : List Row := [⟨56, 9, v, n, RV k_item L⟩]
theorem itemF_own {w : World} {base : Nat} {v : Value} {n : Nat} {L : List Rec} {R : List Row} (h : Fam w base (itemF v n L ++ R)) : w.ownsRow base 56 9 v n (RV k_item L) := h.1 ⟨56, 9, v, n, RV k_item L⟩ (by simp [itemF])
theorem itemF_of {w : World} {base : Nat} {v : Value} {n : Nat} {L : List Rec} (h : w.ownsRow base 56 9 v n (RV k_item L)) : Fam w base (itemF v n L) := Fam.one (r := ⟨56, 9, v, n, RV k_item L⟩) h
theorem markItemF_c (base : Nat) (v : Value) (n : Nat) (L : List Rec) (m : Int) (R : List Row) (w : World) (h : Fam w base (itemF v n L ++ R)) (hs : base ≤ w.heap.size) (hn : n ≤ 1048576) (hL : n = L.length) (hm : 0 ≤ m ∧ m ≤ 4611686018427387904) :
    Calls Try.prog 36 #[v, .int .i64 m] w fun r w' => r = .returned (.int .i64 (m + 9 * (n : Int))) ∧ Fam w' base (itemF v n (marksR 9 m n) ++ R) ∧ Below base w w' := by
  refine (markItemS_c base v n L m w (itemF_own h) hn hL hm).mono ?_
  rintro e w' ⟨rfl, ho, hg⟩
  exact ⟨rfl, h.write (i := 0) (r := ⟨56, 9, v, n, RV k_item L⟩) rfl hg ⟨56, 9, v, n, RV k_item (marksR 9 m n)⟩ (.inl rfl) ho, h.below (i := 0) (r := ⟨56, 9, v, n, RV k_item L⟩) rfl hg hs⟩

/-! ### slices of slices -/
def linesF (v : Value) (VS : List Value) (LL : List (List Int)) : List Row := ⟨35, 1, v, LL.length, VS⟩ :: rowsOf VS LL
theorem linesF_at {w : World} {base : Nat} {v : Value} {VS : List Value} {LL : List (List Int)} {R : List Row} (hl : VS.length = LL.length) (h : Fam w base (linesF v VS LL ++ R)) : LinesAt w base v LL := ⟨VS, hl, h.left⟩
theorem own_rows2 {w : World} {base : Nat} {A : Option Addr} {n c : Nat} {LL : List (List Int)} (h : LinesAt w base (.slice A n c) LL) : Rows2 w A LL := by
  obtain ⟨A', c', hv, _, _, hR⟩ := h.rows
  injection hv with h1 _ _
  subst h1
  exact hR
def markLL (m : Int) (LL : List (List Int)) (k : Nat) : List (List Int) := (List.range LL.length).map fun i => if i < k then marks (m + (totTo LL i : Int)) (LL.getD i []).length else LL.getD i []
theorem markLL_length (m : Int) (LL : List (List Int)) (k : Nat) : (markLL m LL k).length = LL.length := by simp [markLL]
theorem markLL_get (m : Int) {LL : List (List Int)} (k : Nat) {i : Nat} (h : i < LL.length) : (markLL m LL k)[i]? = some (if i < k then marks (m + (totTo LL i : Int)) (LL.getD i []).length else LL.getD i []) := by simp [markLL, h]
theorem markLL_zero (m : Int) (LL : List (List Int)) : markLL m LL 0 = LL := by
  apply List.ext_getElem?
  intro i
  by_cases h : i < LL.length
  · rw [markLL_get m 0 h, if_neg (by omega), getD_eq h]
  · rw [List.getElem?_eq_none (by rw [markLL_length]; omega), List.getElem?_eq_none (by omega)]
theorem markLL_succ (m : Int) {LL : List (List Int)} {k : Nat} (hk : k < LL.length) : markLL m LL (k + 1) = (markLL m LL k).set k (marks (m + (totTo LL k : Int)) (LL.getD k []).length) := by
  apply List.ext_getElem?
  intro i
  rw [List.getElem?_set]
  by_cases h : i < LL.length
  · rw [markLL_get m _ h, markLL_length]
    by_cases e : k = i
    · subst e; rw [if_pos rfl, if_pos hk, if_pos (by omega)]
    · rw [if_neg e, markLL_get m _ h]
      by_cases h2 : i < k
      · rw [if_pos h2, if_pos (by omega)]
      · rw [if_neg h2, if_neg (by omega)]
  · rw [List.getElem?_eq_none (by rw [markLL_length]; omega), if_neg (by omega), List.getElem?_eq_none (by rw [markLL_length]; omega)]
theorem markLL_at (m : Int) {LL : List (List Int)} (k : Nat) {i : Nat} (h : i < LL.length) (hk : i < k) : (markLL m LL k).getD i [] = marks (m + (totTo LL i : Int)) (LL.getD i []).length := by
  rw [List.getD, markLL_get m k h, if_pos hk]; rfl
theorem markLL_lens (m : Int) {LL : List (List Int)} (k : Nat) {i : Nat} (h : i < LL.length) : ((markLL m LL k).getD i []).length = (LL.getD i []).length := by
  rw [List.getD, markLL_get m k h]
  simp only [Option.getD_some]
  split
  · rw [marks_length]
  · rfl
set_option maxRecDepth 100000 in
set_option maxHeartbeats 2000000 in
theorem markLinesF_c (base : Nat) (A : Option Addr) (n c : Nat) (VS : List Value) (LL : List (List Int)) (m : Int) (R : List Row) (w : World) (hn : n = LL.length) (hl : VS.length = LL.length) (h : Fam w base (linesF (.slice A n c) VS LL ++ R)) (hs : base ≤ w.heap.size) (hm : 0 ≤ m ∧ m ≤ 1048576)
    (hll : LL.length ≤ 1048576) (hj : ∀ j, j < LL.length → (LL.getD j []).length ≤ 1048576) (htl : totLen LL ≤ 1125899906842624) :
    Calls Try.prog 43 #[.slice A n c, .int .i64 m] w fun r w' => r = .returned (.int .i64 (m + (totLen LL : Int))) ∧ Fam w' base (linesF (.slice A n c) VS (markLL m LL LL.length) ++ R) ∧ Below base w w' := by
  subst hn
  have HF0 := Lib.hid h
  have HL := Lib.hid hl
  have HJ := Lib.hid hj
  clear h hl hj
  go_enter Try.func43, Try.ntmps43
  go_wp2_with fail
  go_loopw [1, 5] (fun s i wr => ∃ (k : Nat), k ≤ LL.length ∧ i = .int .i64 k ∧ s = .int .i64 (m + (totTo LL k : Int)) ∧ Hid (Fam wr base (linesF (.slice A LL.length c) VS (markLL m LL k) ++ R)) ∧ base ≤ wr.heap.size ∧ Hid (Below base w wr)) (fun _ i _ => LL.length - (intOf i).toNat)
  case atStart => exact ⟨0, Nat.zero_le _, by go_num, by simp [totTo, totLen], by rw [markLL_zero]; exact HF0, hs, hid' (Below.refl _ _)⟩
  case round =>
    obtain ⟨k, hk, rfl, rfl, HF, hsr, HB⟩ := hrel
    by_cases hlt : k < LL.length
    · have hR2 : Rows2 wr A (markLL m LL k) := own_rows2 (linesF_at (by rw [markLL_length]; exact HL.out) (by have := HF.out; exact this))
      obtain ⟨b, o, rfl, hbl, hR⟩ := hR2 k (by rw [markLL_length]; exact hlt)
      obtain ⟨B, d, hcB, -, -, -, -⟩ := hR k (by rw [markLL_length]; exact hlt)
      rw [markLL_lens m k hlt] at hcB
      have hlk := HJ.out k hlt
      have htk := totTo_le LL k
      have hts := totTo_succ hlt
      have hVS : VS[k]? = some (VS[k]'(by have := HL.out; omega)) := List.getElem?_eq_getElem (by have := HL.out; omega)
      obtain ⟨u, hu⟩ : ∃ u, VS[k]? = some u := ⟨_, hVS⟩
      have hrow := rowsOf_get hu (markLL_get m k hlt)
      rw [if_neg (by omega)] at hrow
      obtain ⟨l, hel⟩ : ∃ l, LL.getD k [] = l := ⟨_, rfl⟩
      rw [hel] at hcB hlk hts hrow
      have hout : wr.ownsRow base 35 1 (.slice (some ⟨b, o, none⟩) LL.length c) (markLL m LL k).length VS := (HF.out).1 ⟨35, 1, .slice (some ⟨b, o, none⟩) LL.length c, (markLL m LL k).length, VS⟩ (by simp [linesF])
      rw [markLL_length] at hout
      obtain rfl : o = 0 := by
        rcases hout.2 with ⟨h1, _⟩ | ⟨g, cap, cur, h1, _⟩
        · cases h1
        · injection h1 with h2 _ _
          injection h2 with h3
          injection h3
      have hVc : wr.cell? ⟨b, k, none⟩ = some u := by rw [hout.cellAt k (by omega)]; exact hu
      rw [Nat.zero_add] at hcB
      have hue : u = .slice B l.length d := by
        rw [hVc] at hcB
        injection hcB
      have hrow' : (linesF (.slice (some ⟨b, 0, none⟩) LL.length c) VS (markLL m LL k) ++ R)[k + 1]? = some ⟨3, 1, u, l.length, VI l⟩ := by
        rw [List.getElem?_append_left (by simp [linesF, rowsOf_length (show VS.length = (markLL m LL k).length by rw [markLL_length]; exact HL.out), markLL_length]; omega)]
        exact hrow
      have hown := (HF.out).at_ hrow'
      have hown' : wr.ownsRow base 3 1 u l.length (VI l) := hown
      rw [hue] at hown'
      have HROW := Lib.hid hrow'
      have HUE := Lib.hid hue
      have HE := Lib.hid hel
      have HTS := Lib.hid hts
      clear hrow hrow' hue hel hVS hVc hout hown hR hR2 hts
      go_wp2_with fail
      refine (markIntS_n base _ _ _ _ _ hown' (by omega) (by omega)).mono ?_; rintro e w1 ⟨rfl, ho1, hg1⟩
      go_wp2_with fail
      go_roundw
      case rel =>
        rw [← HUE.out] at ho1 hg1
        have hF1 := (HF.out).write HROW.out hg1 ⟨3, 1, u, l.length, VI (marks (m + (totTo LL k : Int)) l.length)⟩ (.inl rfl) ho1
        have hB1 := (HF.out).below HROW.out hg1 hsr
        refine ⟨k + 1, by omega, by go_num, by (rw [HTS.out]; refine congrArg (Value.int .i64) ?_; omega), hid' ?_, Nat.le_trans hsr hB1.size, hid' (HB.out.trans hB1)⟩
        rw [markLL_succ m hlt, HE.out]
        have e1 : VS.set k u = VS := by
          apply List.ext_getElem?
          intro j
          rw [List.getElem?_set]
          by_cases e : k = j
          · subst e; rw [if_pos rfl, if_pos (by have := HL.out; omega), hu]
          · rw [if_neg e]
        have e2 := rowsOf_set (VS := VS) (LL := markLL m LL k) k u (marks (m + (totTo LL k : Int)) l.length) (by rw [markLL_length]; exact HL.out)
        rw [e1, marks_length] at e2
        have e3 : linesF (.slice (some ⟨b, 0, none⟩) LL.length c) VS ((markLL m LL k).set k (marks (m + (totTo LL k : Int)) l.length)) ++ R = (linesF (.slice (some ⟨b, 0, none⟩) LL.length c) VS (markLL m LL k) ++ R).set (k + 1) ⟨3, 1, u, l.length, VI (marks (m + (totTo LL k : Int)) l.length)⟩ := by
          rw [List.set_append_left _ _ (by simp [linesF, rowsOf_length (show VS.length = (markLL m LL k).length by rw [markLL_length]; exact HL.out), markLL_length]; omega)]
          simp only [linesF, List.set_cons_succ, List.length_set, e2]
        rw [e3]
        exact hF1
      case measure => simp [intOf]; omega
    · obtain rfl : k = LL.length := by omega
      have e : totTo LL LL.length = totLen LL := by simp [totTo]
      have HE : Hid ((totLen LL : Int) = (totTo LL LL.length : Int)) := hid' (by rw [e])
      clear e
      go_wp2_with fail
      go_ret
      exact ⟨by (rw [HE.out]; try rfl), HF.out, HB.out⟩
set_option maxRecDepth 100000 in
set_option maxHeartbeats 2000000 in
theorem heldIntSS_c (A : Option Addr) (c n : Nat) (LL : List (List Int)) (m : Int) (w : World) (h : Rows2 w A (markLL m LL LL.length)) (hn : n = LL.length) (hm : 0 ≤ m ∧ m ≤ 1048576)
    (hll : LL.length ≤ 1048576) (hj : ∀ j, j < LL.length → (LL.getD j []).length ≤ 1048576) (htl : totLen LL ≤ 1125899906842624) :
    Calls Try.prog 44 #[.slice A n c, .int .i64 m] w fun r w' => r = .returned (.int .i64 (m + (totLen LL : Int))) ∧ Bel w w' := by
  subst hn
  have HJ := Lib.hid hj
  clear hj
  go_enter Try.func44, Try.ntmps44
  go_wp2_with fail
  go_loopw [1, 5] (fun s i wr => ∃ (k : Nat), k ≤ LL.length ∧ i = .int .i64 k ∧ s = .int .i64 (m + (totTo LL k : Int)) ∧ Bel w wr) (fun _ i _ => LL.length - (intOf i).toNat)
  case atStart => exact ⟨0, Nat.zero_le _, by go_num, by simp [totTo, totLen], Bel.refl w⟩
  case round =>
    obtain ⟨k, hk, rfl, rfl, hb⟩ := hrel
    by_cases hlt : k < LL.length
    · obtain ⟨b, o, rfl, hbl, hR⟩ := h k (by rw [markLL_length]; exact hlt)
      obtain ⟨B, d, hcB, -, -, -, hBI⟩ := hR k (by rw [markLL_length]; exact hlt)
      rw [markLL_lens m _ hlt] at hcB
      rw [markLL_at m _ hlt hlt] at hBI
      have hcA := (hb.cell _ _ hbl).trans hcB
      have hI2 := hBI.keep hb
      have hlk := HJ.out k hlt
      have htk := totTo_le LL k
      have hts := totTo_succ hlt
      obtain ⟨l, hel⟩ : ∃ l, LL.getD k [] = l := ⟨_, rfl⟩
      rw [hel] at hcA hlk hts hI2
      have HTS := Lib.hid hts
      clear hts hcB hBI hR hel
      go_wp2_with fail
      refine (heldIntS_c _ _ _ _ _ hI2 (by omega) (by omega)).mono ?_; rintro e w1 ⟨rfl, hb1⟩
      go_wp2_with fail
      go_roundw
      case rel => exact ⟨k + 1, by omega, by go_num, by (rw [HTS.out]; refine congrArg (Value.int .i64) ?_; omega), hb.trans hb1⟩
      case measure => simp [intOf]; omega
    · obtain rfl : k = LL.length := by omega
      have e : totTo LL LL.length = totLen LL := by simp [totTo]
      have HE : Hid ((totLen LL : Int) = (totTo LL LL.length : Int)) := hid' (by rw [e])
      clear e
      go_wp2_with fail
      go_ret
      exact ⟨by (rw [HE.out]; try rfl), hb⟩
end Go.Proofs.Ytknccikdoabgfaa
